/-
  Layer 11: a copy of a list; a list and some more, in order.
-/
import Derived.Test.YtopcgnilajmnhaaConf2
import Derived.Test.YtopcgnilajmnhaaSort
set_option linter.unusedVariables false
set_option linter.unusedSimpArgs false
namespace Go.Proofs.Ytopcgnilajmnhaa
open Go.RowKit

theorem infoInt : (Try.prog.info? 3).map (fun i => (i.zero, i.size, i.bytes)) = some (some (.int .i64 0), 1, 8) := by kernel_rfl
theorem ints_one (is : List Int) : ∀ u ∈ is.map i64v, u.oneCell' = true := by
  intro u hu
  obtain ⟨b, _, rfl⟩ := List.mem_map.1 hu
  rfl
/-- What is handed back is a row of the call's own. -/
def RetInts (w : World) (n : Nat) (xs : List Int) (e : Ending) (w' : World) : Prop :=
  ∃ A c, e = .returned (.slice A n c) ∧ w'.ownsRow w.heap.size 3 1 (.slice A n c) n (xs.map i64v) ∧ Below w.heap.size w w'
set_option maxHeartbeats 400000 in
theorem clone_ints (A : Option Addr) (is : List Int) (c : Nat) (w : World) (hc : is.length ≤ c) (hl : is.length * 8 ≤ 140737488355328) (h : Sees w A (is.map i64v)) :
    Calls Try.prog 33 #[.slice A is.length c] w (RetInts w is.length is) := by
  have hq := fun (w : World) (a : Option Addr) (n c : Nat) => Lib.run_eql_slice_nil (P := Try.prog) w 22 3 a n c 0 0 Try.underlying22
  have H := Lib.hid h
  clear h
  go_enter Try.func33, Try.ntmps33
  cases A with
  | none =>
    obtain rfl : is = [] := by
      rcases is with _ | ⟨u, l⟩
      · rfl
      · obtain ⟨_, e, _⟩ := H.out 0 _ rfl
        cases e
    go_wp2
    go_ret
    exact ⟨none, 0, rfl, ⟨rfl, .inl ⟨rfl, rfl⟩⟩, Below.refl _ _⟩
  | some ad =>
    have hn : (some ad).isNone = false := rfl
    have p1 := own_made0 w 3 1
    have p2 := H.out.below ((Below.refl w.heap.size w).alloc (Nat.le_refl _) (.cells #[] 3))
    go_wp2_with (at_builtin; refine wpList_append_sees rfl (.tmp 5) (.tmp 6) 22 rfl w.heap.size 3 (.int .i64 0) 1 8 Try.underlying22 infoInt rfl (by decide) (.slice (some ⟨w.heap.size, 0, none⟩) 0 0) 0 [] rfl p1 (some ad) is.length c (is.map i64v) rfl (by simp) p2 (ints_one _) (by simp only [maxLen]; omega) (by omega) (by simp) ?_; intro A' c' w' hown hg hat)
    go_wp2
    go_ret
    refine ⟨A', c', by simp, by simpa using hown, ?_⟩
    exact below_grown_own ((Below.refl _ w).alloc (Nat.le_refl _) _) (by simp) p1 (Nat.le_refl _) hg
theorem sort_own_at {base : Nat} (A : Option Addr) (n : Nat) (is : List Int) (c : Nat) (w : World) (hn : is.length = n) (h : w.ownsRow base 3 1 (.slice A n c) n (is.map i64v)) (hl : n ≤ 140737488355328) :
    Calls Try.prog 28 #[.slice A n c] w fun e w' => e = .returned (.tuple #[]) ∧ w'.ownsRow base 3 1 (.slice A n c) n ((sortL is).map i64v) ∧ Outside (fun b => (Value.slice A n c).ownBlock = some b) w w' := by
  subst hn
  exact sort_own A is c w h hl
set_option maxHeartbeats 400000 in
theorem with_any (A B : Option Addr) (is js : List Int) (c d : Nat) (w : World) (hc : is.length ≤ c) (hd : js.length ≤ d) (hl : (is.length + js.length) * 8 ≤ 140737488355328) (hA : Sees w A (is.map i64v)) (hB : Sees w B (js.map i64v)) :
    Calls Try.prog 31 #[.slice A is.length c, .slice B js.length d] w (RetInts w (is.length + js.length) (sortL (is ++ js))) := by
  have HA := Lib.hid hA
  have HB := Lib.hid hB
  clear hA hB
  go_enter Try.func31, Try.ntmps31
  go_wp2_with (first
    | (go_at_call 33; refine (clone_ints A is c w hc (by omega) HA.out).mono ?_; rintro e w1 ⟨A1, c1, rfl, hown1, hb1⟩)
    | (at_builtin; refine wpList_append_sees rfl (.tmp 7) (.tmp 8) 22 rfl w.heap.size 3 (.int .i64 0) 1 8 Try.underlying22 infoInt rfl (by decide) (.slice A1 is.length c1) is.length (is.map i64v) rfl hown1 B js.length d (js.map i64v) rfl (by simp) (HB.out.below hb1) (ints_one _) (by simp only [maxLen]; omega) (by omega) hb1.size ?_; intro A2 c2 w2 hown2' hg2 hat2; have hb2 := below_grown_own hb1 hb1.size hown1 (Nat.le_refl _) hg2; have hown2 : w2.ownsRow w.heap.size 3 1 (.slice A2 (is.length + js.length) c2) (is.length + js.length) ((is ++ js).map i64v) := (by simpa using hown2'); clear hown2' hg2 hat2)
    | (go_at_call 28; refine (sort_own_at A2 (is.length + js.length) (is ++ js) c2 w2 (by simp) hown2 (by omega)).mono ?_; rintro e w3 ⟨rfl, hown3, ho3⟩)
    | fail)
  go_ret
  exact ⟨A2, c2, rfl, hown3, hb2.trans (ho3.below (fun b hb => (own_block_ge hown2 b hb).1) hb2.size)⟩
end Go.Proofs.Ytopcgnilajmnhaa
