/-
  slices.Clone of bytes; law1.Lent and law1.Stays.
-/
import Derived.Test.YtfbcdlbcdaobcaaProg
import Derived.Test.YtfbcdlbcdaobcaaLib
set_option linter.unusedVariables false
set_option linter.unusedSimpArgs false
namespace Go.Proofs.Ytfbcdlbcdaobcaa
open Go.RowKit
theorem infoU8 : (Try.prog.info? 5).map (fun i => (i.zero, i.size, i.bytes)) = some (some (.int .u8 0), 1, 1) := by kernel_rfl

/-- What is handed back is a row of the call's own. -/
def RetOwn (w : World) (t size n : Nat) (xs : List Value) (e : Ending) (w' : World) : Prop :=
  ∃ A c, e = .returned (.slice A n c) ∧ w'.ownsRow w.heap.size t size (.slice A n c) n xs ∧ Below w.heap.size w w'

set_option maxHeartbeats 400000 in
theorem clone_u8 (A : Option Addr) (bs : List UInt8) (c : Nat) (w : World) (hc : bs.length ≤ c) (hl : bs.length ≤ 140737488355328) (h : Sees w A (u8s bs)) :
    Calls Try.prog 29 #[.slice A bs.length c] w (RetOwn w 5 1 bs.length (u8s bs)) := by
  have hq := fun (w : World) (a : Option Addr) (n c : Nat) => Lib.run_eql_slice_nil (P := Try.prog) w 22 5 a n c 0 0 Try.underlying22
  have H := Lib.hid h
  clear h
  go_enter Try.func29, Try.ntmps29
  cases A with
  | none =>
    obtain rfl : bs = [] := by
      rcases bs with _ | ⟨u, l⟩
      · rfl
      · obtain ⟨_, e, _⟩ := H.out 0 _ rfl
        cases e
    go_wp2
    go_ret
    exact ⟨none, 0, rfl, ⟨rfl, .inl ⟨rfl, rfl⟩⟩, Below.refl _ _⟩
  | some ad =>
    have hn : (some ad).isNone = false := rfl
    have p1 := own_made0 w 5 1
    have p2 := H.out.below ((Below.refl w.heap.size w).alloc (Nat.le_refl _) (.cells #[] 5))
    have p3 := u8s_length bs
    have P3 := Lib.hid p3
    clear p3
    go_wp2_with (at_builtin; refine wpList_append_sees rfl (.tmp 5) (.tmp 6) 22 rfl w.heap.size 5 (.int .u8 0) 1 1 Try.underlying22 infoU8 rfl (by decide) (.slice (some ⟨w.heap.size, 0, none⟩) 0 0) 0 [] rfl p1 (some ad) bs.length c (u8s bs) rfl (by rw [P3.out]; simp) p2 (u8s_one _) (by simp only [maxLen]; omega) (by omega) (by simp) ?_; intro A' c' w' hown hg hat)
    go_wp2
    go_ret
    refine ⟨A', c', by simp, by simpa using hown, ?_⟩
    exact below_grown_own ((Below.refl _ w).alloc (Nat.le_refl _) _) (by simp) p1 (Nat.le_refl _) hg
theorem clone_u8_at (A : Option Addr) (n c : Nat) (bs : List UInt8) (w : World) (hn : bs.length = n) (hc : n ≤ c) (hl : n ≤ 140737488355328) (h : Sees w A (u8s bs)) :
    Calls Try.prog 29 #[.slice A n c] w (RetOwn w 5 1 n (u8s bs)) := by
  subst hn
  exact clone_u8 A bs c w hc hl h
/-- Behind law1.Lent: the bytes, and two more in the room behind them. -/
def RetLent (w : World) (bs : List UInt8) (e : Ending) (w' : World) : Prop :=
  ∃ g c, e = .returned (.slice (some ⟨g, 0, none⟩) bs.length c) ∧ w'.ownsRow w.heap.size 5 1 (.slice (some ⟨g, 0, none⟩) (bs.length + 2) c) (bs.length + 2) (u8s (bs ++ [201, 202])) ∧ Below w.heap.size w w'

set_option maxHeartbeats 400000 in
theorem lent_any (A : Option Addr) (bs : List UInt8) (c : Nat) (w : World) (hc : bs.length ≤ c) (hl : bs.length + 2 ≤ 140737488355328) (h : Sees w A (u8s bs)) :
    Calls Try.prog 9 #[.slice A bs.length c] w (RetLent w bs) := by
  have p1 := own_made0 w 5 1
  have p2 := h.below ((Below.refl w.heap.size w).alloc (Nat.le_refl _) (.cells #[] 5))
  have P3 := Lib.hid (u8s_length bs)
  clear h
  go_enter Try.func9, Try.ntmps9
  go_wp2_with (first
    | (at_builtin; refine wpList_append_sees rfl (.tmp 4) (.tmp 5) 22 rfl w.heap.size 5 (.int .u8 0) 1 1 Try.underlying22 infoU8 rfl (by decide) (.slice (some ⟨w.heap.size, 0, none⟩) 0 0) 0 [] rfl p1 A bs.length c (u8s bs) rfl (by rw [P3.out]; simp) p2 (u8s_one _) (by simp only [maxLen]; omega) (by omega) (by simp) ?_; intro A1 c1 w1 hown1 hg1 hat1; simp only [Nat.zero_add, List.nil_append] at hown1)
    | (at_builtin; refine wpList_append_sees rfl (.tmp 7) (.tmp 8) 22 rfl w.heap.size 5 (.int .u8 0) 1 1 Try.underlying22 infoU8 rfl (by decide) (.slice A1 bs.length c1) bs.length (u8s bs) rfl (own_alloc' hown1 _) (some ⟨w1.heap.size, 0, none⟩) 2 2 (u8s [201, 202]) rfl rfl (sees_new _ _ _) (u8s_one _) (by simp only [maxLen]; omega) (by omega) (by have := hg1.size; simp at this ⊢; omega) ?_; intro A2 c2 w2 hown2 hg2 hat2; obtain ⟨hc2, g2, rfl, hb2, hs2⟩ := own_pos hown2 (by omega); have hc2' : bs.length ≤ c2 := by omega))
  go_ret
  refine ⟨g2, c2, by simp, by rw [u8s_append]; exact hown2, ?_⟩
  exact below_grown_own ((below_grown_own ((Below.refl _ w).alloc (Nat.le_refl _) _) (by simp) p1 (Nat.le_refl _) hg1).alloc (by have := hg1.size; simp at this; omega) _) (by have := hg1.size; simp at this ⊢; omega) (own_alloc' hown1 _) (Nat.le_refl _) hg2
set_option maxHeartbeats 1000000 in
theorem stays_yes (A0 : Option Addr) (n0 c0 : Nat) (A : Option Addr) (bs : List UInt8) (c : Nat) (w : World) (hc0 : bs.length + 2 ≤ c0) (hm : c0 ≤ maxLen) (hc : bs.length ≤ c) (hl : bs.length + 2 ≤ 140737488355328)
    (h0 : Sees w A0 (u8s (bs ++ [201, 202]))) (h : Sees w A (u8s bs)) :
    Calls Try.prog 12 #[.slice A0 n0 c0, .slice A bs.length c] w (RetQuiet w (.bool true)) := by
  obtain ⟨ad, rfl, k1⟩ := h0 (bs.length + 0) _ (u8_get_append 0 (by decide))
  obtain ⟨ad', e', k2⟩ := h0 (bs.length + 1) _ (u8_get_append 1 (by decide))
  cases e'
  have s0 : Sees w (some ad) (u8s bs) := by
    have := h0.take bs.length
    rwa [← u8s_take, List.take_left'] at this
    rfl
  have q1 : ∀ (nq cq : Nat), (convert 22 9 (.slice (some ad) bs.length cq)).run Try.prog (w.drewN nq) = .ok (.string (strB bs)) (w.drewN nq) := fun nq cq =>
    run_string_sees (w.drewN nq) _ _ _ Try.underlying22 Try.underlying5 Try.underlying9 _ _ _ bs rfl s0
  have q2 : ∀ (nq : Nat), (convert 22 9 (.slice A bs.length c)).run Try.prog (w.drewN nq) = .ok (.string (strB bs)) (w.drewN nq) := fun nq =>
    run_string_sees (w.drewN nq) _ _ _ Try.underlying22 Try.underlying5 Try.underlying9 _ _ _ bs rfl h
  have k1' : w.cell? (ad.add bs.length) = some (.int .u8 201) := k1
  have k2' : w.cell? (ad.add (bs.length + 1)) = some (.int .u8 202) := k2
  have k3' : w.cell? ⟨ad.block, ad.off + (bs.length + 1), none⟩ = some (.int .u8 202) := by rw [← add_pos _ _ (by omega)]; exact k2
  clear h0 h k1 k2 s0
  simp only [maxLen] at hm
  have i1 : (bs.length : Int) ≤ (c0 : Int) := by omega
  have i2 : (0 : Int) ≤ (bs.length : Int) := by omega
  have i3 : bs.length ≤ c0 := by omega
  have i4 : bs.length < bs.length + 2 := by omega
  have i5 : (bs.length : Int) < (bs.length : Int) + 2 := by omega
  have i6 : bs.length + 1 < bs.length + 2 := by omega
  have i7 : (bs.length : Int) + 1 < (bs.length : Int) + 2 := by omega
  have i8 : (0 : Int) ≤ (bs.length : Int) + 1 := by omega
  have i9 : ((bs.length : Int) + 1).toNat = bs.length + 1 := by omega
  have i10 : IntKind.i64.wrap ((bs.length : Int) + 1) = (bs.length : Int) + 1 := IntWalk.i64_in _ (by omega)
  go_enter Try.func12, Try.ntmps12
  go_wp2
  go_quiet (fail)
  go_wp2
  go_ret
  exact ⟨rfl, _, rfl⟩
/-- The world has grown by blocks alone; a bool is told. -/
def RetBool (w : World) (b : Bool) (e : Ending) (w' : World) : Prop := e = .returned (.bool b) ∧ Below w.heap.size w w'
end Go.Proofs.Ytfbcdlbcdaobcaa
