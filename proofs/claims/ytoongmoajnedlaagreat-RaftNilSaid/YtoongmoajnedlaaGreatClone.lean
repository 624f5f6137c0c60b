/-
  slices.Clone of bytes (for seats without the law package of layer 1).
-/
import Derived.Test.YtoongmoajnedlaaGreatProg
import Derived.Test.YtoongmoajnedlaaGreatLib
import Derived.Test.YtoongmoajnedlaaGreatRet
set_option linter.unusedVariables false
set_option linter.unusedSimpArgs false
namespace Go.Proofs.YtoongmoajnedlaaGreat
open Go.RowKit
theorem infoU8 : (Tryz.prog.info? 5).map (fun i => (i.zero, i.size, i.bytes)) = some (some (.int .u8 0), 1, 1) := by kernel_rfl

/-- What is handed back is a row of the call's own. -/
def RetOwn (w : World) (t size n : Nat) (xs : List Value) (e : Ending) (w' : World) : Prop :=
  ∃ A c, e = .returned (.slice A n c) ∧ w'.ownsRow w.heap.size t size (.slice A n c) n xs ∧ Below w.heap.size w w'

set_option maxHeartbeats 400000 in
theorem clone_u8 (A : Option Addr) (bs : List UInt8) (c : Nat) (w : World) (hc : bs.length ≤ c) (hl : bs.length ≤ 140737488355328) (h : Sees w A (u8s bs)) :
    Calls Tryz.prog 108 #[.slice A bs.length c] w (RetOwn w 5 1 bs.length (u8s bs)) := by
  have hq := fun (w : World) (a : Option Addr) (n c : Nat) => Lib.run_eql_slice_nil (P := Tryz.prog) w 29 5 a n c 0 0 Tryz.underlying29
  have H := Lib.hid h
  clear h
  go_enter Tryz.func108, Tryz.ntmps108
  cases A with
  | none =>
    obtain rfl : bs = [] := by
      rcases bs with _ | ⟨u, l⟩
      · rfl
      · obtain ⟨_, e, _⟩ := H.out 0 _ rfl
        cases e
    go_wp2
    go_ret
    exact ⟨none, 0, rfl, ⟨rfl, .inl ⟨rfl, rfl⟩⟩, Below.refl _ _⟩
  | some ad =>
    have hn : (some ad).isNone = false := rfl
    have p1 := own_made0 w 5 1
    have p2 := H.out.below ((Below.refl w.heap.size w).alloc (Nat.le_refl _) (.cells #[] 5))
    have p3 := u8s_length bs
    have P3 := Lib.hid p3
    clear p3
    go_wp2_with (at_builtin; refine wpList_append_sees rfl (.tmp 5) (.tmp 6) 29 rfl w.heap.size 5 (.int .u8 0) 1 1 Tryz.underlying29 infoU8 rfl (by decide) (.slice (some ⟨w.heap.size, 0, none⟩) 0 0) 0 [] rfl p1 (some ad) bs.length c (u8s bs) rfl (by rw [P3.out]; simp) p2 (u8s_one _) (by simp only [maxLen]; omega) (by omega) (by simp) ?_; intro A' c' w' hown hg hat)
    go_wp2
    go_ret
    refine ⟨A', c', by simp, by simpa using hown, ?_⟩
    exact below_grown_own ((Below.refl _ w).alloc (Nat.le_refl _) _) (by simp) p1 (Nat.le_refl _) hg
theorem clone_u8_at (A : Option Addr) (n c : Nat) (bs : List UInt8) (w : World) (hn : bs.length = n) (hc : n ≤ c) (hl : n ≤ 140737488355328) (h : Sees w A (u8s bs)) :
    Calls Tryz.prog 108 #[.slice A n c] w (RetOwn w 5 1 n (u8s bs)) := by
  subst hn
  exact clone_u8 A bs c w hc hl h
end Go.Proofs.YtoongmoajnedlaaGreat
