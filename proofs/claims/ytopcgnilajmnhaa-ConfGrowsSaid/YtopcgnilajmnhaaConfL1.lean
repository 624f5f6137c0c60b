/-
  Layer 11: the laws ConfBeside, ConfLooks, ConfReaches: the walks.
-/
import Derived.Test.YtopcgnilajmnhaaConf12
set_option linter.unusedVariables false
set_option linter.unusedSimpArgs false
namespace Go.Proofs.Ytopcgnilajmnhaa
open Go.RowKit

theorem has_at (A : Option Addr) (is : List Int) (n c : Nat) (x : Int) (b : Bool) (w : World) (hn : is.length = n) (hc : n ≤ c) (hl : n ≤ 140737488355328) (h : Sees w A (is.map i64v)) (hb : hasB is x = b) :
    Calls Try.prog 18 #[.slice A n c, .int .i64 x] w fun e w' => e = .returned (.bool b) ∧ w = w' := by
  subst hn hb
  exact has_any A is c x w hc hl h
theorem ints_same_at (A B : Option Addr) (is js : List Int) (n c m d : Nat) (w : World) (hn : is.length = n) (hm : js.length = m) (hc : n ≤ c) (hd : m ≤ d) (hl : n ≤ 140737488355328) (hl2 : m ≤ 140737488355328) (hA : Sees w A (is.map i64v)) (hB : Sees w B (js.map i64v)) (he : is = js) :
    Calls Try.prog 15 #[.slice A n c, .slice B m d] w (RetBool w true) := by
  subst hn hm
  exact (ints_any A B is js c d w hc hd hl hl2 hA hB).mono fun e w' ⟨h1, h2⟩ => ⟨by rw [h1]; unfold sameB; rw [decide_eq_true he], below_of_drew h2⟩
set_option maxHeartbeats 1000000 in
theorem confBeside_any (A B : Option Addr) (is js : List Int) (c d : Nat) (w : World) (hc : is.length ≤ c) (hd : js.length ≤ d) (hl : is.length * 8 ≤ 140737488351232) (hl2 : js.length * 8 ≤ 140737488351232) (hA : Sees w A (is.map i64v)) (hB : Sees w B (js.map i64v)) :
    Calls Try.prog 3 #[.slice A is.length c, .slice B js.length d] w (RetBool w true) := by
  have HA := Lib.hid hA
  have HB := Lib.hid hB
  have HR := Lib.hid (beside_ref is js)
  have HR2 := Lib.hid ((beside_ref js is).symm.trans (beside_symm is js))
  have HS := Lib.hid (beside_symm is js)
  obtain ⟨b, hb⟩ : ∃ b, besideB is js = b := ⟨_, rfl⟩
  rw [hb] at HR HS
  have HBB := Lib.hid hb
  clear hA hB hb
  go_enter Try.func3, Try.ntmps3
  go_wp2_with fail
  refine (beside_any A B is js c d w hc hd (by omega) (by omega) HA.out HB.out).mono ?_
  rintro e w1 ⟨rfl, hb1⟩
  rw [HBB.out]
  go_wp2_with fail
  refine (refbeside_any A B is js c d w1 hc hd (by omega) (by omega) (HA.out.below hb1) (HB.out.below hb1)).mono ?_
  rintro e w2 ⟨rfl, hb2'⟩
  rw [← HR.out]
  have hb2 := below_step hb1 hb1.size hb2'
  clear hb2'
  have e1 : (b == b) = true := by simp
  go_wp2_with fail
  refine (beside_any B A js is d c w2 hd hc (by omega) (by omega) (HB.out.below hb2) (HA.out.below hb2)).mono ?_
  rintro e w3 ⟨rfl, hb3'⟩
  rw [HS.out]
  have hb3 := below_step hb2 hb2.size hb3'
  clear hb3'
  go_wp2_with fail
  refine (refbeside_any A B is js c d w3 hc hd (by omega) (by omega) (HA.out.below hb3) (HB.out.below hb3)).mono ?_
  rintro e w4 ⟨rfl, hb4'⟩
  rw [← HR.out]
  have hb4 := below_step hb3 hb3.size hb4'
  clear hb4'
  go_wp2_with (first
    | (go_at_call 12; refine (knows_any _).mono ?_; rintro e w5 ⟨rfl, hb5⟩)
    | fail)
  go_ret
  exact ⟨rfl, below_step hb4 hb4.size hb5⟩
/-- 'append([]int{}, l...)'. -/
def OwnInts (w w1 : World) (A1 : Option Addr) (n c1 : Nat) (is : List Int) : Prop := w1.ownsRow w.heap.size 3 1 (.slice A1 n c1) n (is.map i64v) ∧ Below w.heap.size w w1
theorem own_copy {w w1 : World} {A1 : Option Addr} {n c1 : Nat} {is : List Int} (h : w1.ownsRow w.heap.size 3 1 (.slice A1 (0 + n) c1) (0 + n) ([] ++ is.map i64v)) (hg : (w.alloc (.cells #[] 3)).grownBy w1 (Value.slice (some ⟨w.heap.size, 0, none⟩) 0 0).ownBlock) : OwnInts w w1 A1 n c1 is :=
  ⟨by simpa using h, below_grown_own ((Below.refl _ w).alloc (Nat.le_refl _) _) (by simp) (own_made0 w 3 1) (Nat.le_refl _) hg⟩
set_option maxHeartbeats 1000000 in
theorem confReaches_any (A B : Option Addr) (is js : List Int) (c d : Nat) (w : World) (hc : is.length ≤ c) (hd : js.length ≤ d) (hl : is.length * 8 ≤ 140737488351232) (hl2 : js.length * 8 ≤ 140737488351232) (hA : Sees w A (is.map i64v)) (hB : Sees w B (js.map i64v)) :
    Calls Try.prog 4 #[.slice A is.length c, .slice B js.length d] w (RetBool w true) := by
  have HB := Lib.hid hB
  obtain ⟨z, hz⟩ : ∃ z, nthV is.length js = z := ⟨_, rfl⟩
  have HZ := Lib.hid hz
  clear hA hB hz
  go_enter Try.func4, Try.ntmps4
  go_wp2_with (first
    | (at_builtin; refine wpList_append_sees rfl (.tmp 6) (.tmp 7) 22 rfl w.heap.size 3 (.int .i64 0) 1 8 Try.underlying22 infoInt rfl (by decide) (.slice (some ⟨w.heap.size, 0, none⟩) 0 0) 0 [] rfl (own_made0 w 3 1) B js.length d (js.map i64v) rfl (by simp) (HB.out.below ((Below.refl _ _).alloc (Nat.le_refl _) _)) (ints_one _) (by simp only [maxLen]; omega) (by omega) (by simp) ?_; intro A1 c1 w1 hown1 hg1 hat1; have HO1 := Lib.hid (own_copy hown1 hg1); have e0 : 0 + js.length = js.length := Nat.zero_add _; rw [e0]; clear hown1 hg1 hat1 e0)
    | (go_at_call 13; refine (nth_at A A1 is.length js c js.length c1 z w1 rfl (sees_own' HO1.out.1).2.1 (by omega) (by omega) (sees_own' HO1.out.1).2.2.2 HZ.out).mono ?_; rintro e w2 ⟨rfl, hb2⟩; have HB2 := Lib.hid (below_step HO1.out.2 HO1.out.2.size hb2); have HS2 := Lib.hid ((sees_own' HO1.out.1).2.2.2.below hb2); clear hb2)
    | (go_at_call 14; refine (refnth_any A B is.length js c d w2 hd (by omega) (by omega) (HB.out.below HB2.out)).mono ?_; rintro e w' ⟨rfl, rfl⟩; rw [HZ.out]; have e1 : (z == z) = true := by simp)
    | (go_at_call 15; refine (ints_same_at A1 B js js js.length c1 js.length d w2 rfl rfl (sees_own' HO1.out.1).2.1 hd (by omega) (by omega) HS2.out (HB.out.below HB2.out) rfl).mono ?_; rintro e w3 ⟨rfl, hb3⟩; have HB3 := Lib.hid (below_step HB2.out HB2.out.size hb3); clear hb3)
    | (go_at_call 12; refine (knows_any _).mono ?_; rintro e w5 ⟨rfl, hb5⟩)
    | fail)
  go_ret
  exact ⟨rfl, below_step HB3.out HB3.out.size hb5⟩
set_option maxHeartbeats 1000000 in
theorem confLooks_any (A : Option Addr) (is : List Int) (c : Nat) (id : Int) (w : World) (hc : is.length ≤ c) (hl : is.length * 8 ≤ 140737488351232) (hA : Sees w A (is.map i64v)) :
    Calls Try.prog 6 #[.slice A is.length c, .int .i64 id] w (RetBool w true) := by
  have HA := Lib.hid hA
  obtain ⟨rb, hrb⟩ : ∃ rb, rightB is = rb := ⟨_, rfl⟩
  obtain ⟨hb, hhb⟩ : ∃ hb, hasB is id = hb := ⟨_, rfl⟩
  obtain ⟨q, hq⟩ : ∃ q, quorN is.length = q := ⟨_, rfl⟩
  have HRB := Lib.hid hrb
  have HHB := Lib.hid hhb
  have HQ := Lib.hid hq
  have e1 : (rb == rb) = true := by simp
  have e2 : (hb == hb) = true := by simp
  have e3 : ((q : Int) == (q : Int)) = true := by simp
  clear hA hrb hhb hq
  go_enter Try.func6, Try.ntmps6
  go_wp2_with (first
    | (at_builtin; refine wpList_append_sees rfl (.tmp 6) (.tmp 7) 22 rfl w.heap.size 3 (.int .i64 0) 1 8 Try.underlying22 infoInt rfl (by decide) (.slice (some ⟨w.heap.size, 0, none⟩) 0 0) 0 [] rfl (own_made0 w 3 1) A is.length c (is.map i64v) rfl (by simp) (HA.out.below ((Below.refl _ _).alloc (Nat.le_refl _) _)) (ints_one _) (by simp only [maxLen]; omega) (by omega) (by simp) ?_; intro A1 c1 w1 hown1 hg1 hat1; have HO1 := Lib.hid (own_copy hown1 hg1); have e0 : 0 + is.length = is.length := Nat.zero_add _; rw [e0]; clear hown1 hg1 hat1 e0)
    | (go_at_call 16; refine (right_at A1 is is.length c1 rb w1 rfl (sees_own' HO1.out.1).2.1 (by omega) (sees_own' HO1.out.1).2.2.2 HRB.out).mono ?_; rintro e w2 ⟨rfl, hb2⟩; have HB2 := Lib.hid (below_step HO1.out.2 HO1.out.2.size hb2); have HS2 := Lib.hid ((sees_own' HO1.out.1).2.2.2.below hb2); clear hb2)
    | (go_at_call 17; refine (refright11_any A is c w2 hc (by omega) (HA.out.below HB2.out)).mono ?_; rintro e w3 ⟨rfl, hw3⟩; rw [HRB.out]; have HB3 := Lib.hid (below_step HB2.out HB2.out.size (below_of_drew hw3)); have HS3 := Lib.hid (HS2.out.below (below_of_drew hw3)); clear hw3)
    | (go_at_call 18; refine (has_at A1 is is.length c1 id hb w3 rfl (sees_own' HO1.out.1).2.1 (by omega) HS3.out HHB.out).mono ?_; rintro e w' ⟨rfl, rfl⟩)
    | (go_at_call 19; refine (refhas_any A is c id w3 hc (by omega) (HA.out.below HB3.out)).mono ?_; rintro e w' ⟨rfl, rfl⟩; rw [HHB.out])
    | (go_at_call 20; refine (quorum_at A1 is.length c1 q w3 (by omega) HQ.out).mono ?_; rintro e w' ⟨rfl, rfl⟩)
    | (go_at_call 21; refine (refquorum_at A is.length c q w3 (by omega) HQ.out).mono ?_; rintro e w' ⟨rfl, rfl⟩)
    | (go_at_call 15; refine (ints_same_at A1 A is is is.length c1 is.length c w3 rfl rfl (sees_own' HO1.out.1).2.1 hc (by omega) (by omega) HS3.out (HA.out.below HB3.out) rfl).mono ?_; rintro e w4 ⟨rfl, hb4⟩; have HB4 := Lib.hid (below_step HB3.out HB3.out.size hb4); clear hb4)
    | (go_at_call 12; refine (knows_any _).mono ?_; rintro e w5 ⟨rfl, hb5⟩)
    | fail)
  go_ret
  exact ⟨rfl, below_step HB4.out HB4.out.size hb5⟩
end Go.Proofs.Ytopcgnilajmnhaa
