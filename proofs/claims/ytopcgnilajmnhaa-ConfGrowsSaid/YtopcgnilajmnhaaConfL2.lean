/-
  Layer 11: the laws ConfChanges, ConfBack: the walks.
-/
import Derived.Test.YtopcgnilajmnhaaConfL1
set_option linter.unusedVariables false
set_option linter.unusedSimpArgs false
namespace Go.Proofs.Ytopcgnilajmnhaa
open Go.RowKit

theorem change_same (l : List Int) (add : Bool) (id : Int) : changeL l add id = refchangeL l add id := by
  unfold refchangeL
  by_cases h : changeE l add id = 0
  · rw [if_pos h, change_ref h]
  · rw [if_neg h, changeL_err rfl h]
theorem change_few (l : List Int) (add : Bool) (id : Int) : (changeL l add id).length ≤ 7 := by
  by_cases h : changeE l add id = 0
  · exact (change_right h).most
  · rw [changeL_err rfl h]
    exact Nat.zero_le _
/-- A list of the call's own, its length under a name. -/
def RetListN (w : World) (xs : List Int) (n : Nat) (err : Int) (e : Ending) (w' : World) : Prop :=
  ∃ A c, e = .returned (.tuple #[.slice A n c, .int .i64 err]) ∧ w'.ownsRow w.heap.size 3 1 (.slice A n c) n (xs.map i64v) ∧ Below w.heap.size w w'
theorem change_at (A : Option Addr) (is : List Int) (n c : Nat) (add : Bool) (id : Int) (xs : List Int) (m : Nat) (z : Int) (w : World) (hn : is.length = n) (hc : n ≤ c) (hl : (n + 1) * 8 ≤ 140737488355328) (h : Sees w A (is.map i64v)) (hx : changeL is add id = xs) (hm : xs.length = m) (hz : changeE is add id = z) :
    Calls Try.prog 22 #[.slice A n c, .bool add, .int .i64 id] w (RetListN w xs m z) := by
  subst hn hx hm hz
  exact change_any A is c add id w hc hl h
theorem refchange_at (A : Option Addr) (is : List Int) (n c : Nat) (add : Bool) (id : Int) (xs : List Int) (m : Nat) (z : Int) (w : World) (hn : is.length = n) (hc : n ≤ c) (hl : n ≤ 140737488355328) (h : Sees w A (is.map i64v)) (hx : changeL is add id = xs) (hm : xs.length = m) (hz : changeE is add id = z) :
    Calls Try.prog 23 #[.slice A n c, .bool add, .int .i64 id] w (RetListN w xs m z) := by
  subst hn hm hz
  rw [change_same] at hx
  subst hx
  exact refchange_any A is c add id w hc hl h
set_option maxHeartbeats 1000000 in
theorem confChanges_any (A : Option Addr) (is : List Int) (c : Nat) (add : Bool) (id : Int) (w : World) (hc : is.length ≤ c) (hl : is.length * 8 ≤ 140737488351232) (hA : Sees w A (is.map i64v)) :
    Calls Try.prog 7 #[.slice A is.length c, .bool add, .int .i64 id] w (RetBool w true) := by
  have HA := Lib.hid hA
  obtain ⟨xs, hx⟩ : ∃ xs, changeL is add id = xs := ⟨_, rfl⟩
  obtain ⟨n, hn⟩ : ∃ n, xs.length = n := ⟨_, rfl⟩
  obtain ⟨z, hz⟩ : ∃ z, changeE is add id = z := ⟨_, rfl⟩
  have hn7 : n ≤ 7 := by rw [← hn, ← hx]; exact change_few _ _ _
  have HX := Lib.hid hx
  have HN := Lib.hid hn
  have HZ := Lib.hid hz
  have e1 : (z == z) = true := by simp
  clear hA hx hn hz
  go_enter Try.func7, Try.ntmps7
  go_wp2_with (first
    | (at_builtin; refine wpList_append_sees rfl (.tmp 14) (.tmp 15) 22 rfl w.heap.size 3 (.int .i64 0) 1 8 Try.underlying22 infoInt rfl (by decide) (.slice (some ⟨w.heap.size, 0, none⟩) 0 0) 0 [] rfl (own_made0 w 3 1) A is.length c (is.map i64v) rfl (by simp) (HA.out.below ((Below.refl _ _).alloc (Nat.le_refl _) _)) (ints_one _) (by simp only [maxLen]; omega) (by omega) (by simp) ?_; intro A1 c1 w1 hown1 hg1 hat1; have HO1 := Lib.hid (own_copy hown1 hg1); have e0 : 0 + is.length = is.length := Nat.zero_add _; rw [e0]; clear hown1 hg1 hat1 e0)
    | (go_at_call 22; refine (change_at A1 is is.length c1 add id xs n z w1 rfl (sees_own' HO1.out.1).2.1 (by omega) (sees_own' HO1.out.1).2.2.2 HX.out HN.out HZ.out).mono ?_; rintro e w2 ⟨A2, c2, rfl, hown2, hb2⟩; have HO2 := Lib.hid hown2; have HBS2 := Lib.hid hb2; have HB2 := Lib.hid (below_step HO1.out.2 HO1.out.2.size hb2); clear hown2 hb2)
    | (go_at_call 23; refine (refchange_at A is is.length c add id xs n z w2 rfl hc (by omega) (HA.out.below HB2.out) HX.out HN.out HZ.out).mono ?_; rintro e w3 ⟨A3, c3, rfl, hown3, hb3⟩; have HO3 := Lib.hid hown3; have HO23 := Lib.hid (own_keep HO2.out hb3); have HBS3 := Lib.hid (below_step HBS2.out HBS2.out.size hb3); have HB3 := Lib.hid (below_step HB2.out HB2.out.size hb3); clear hown3 hb3)
    | (go_at_call 15; refine (ints_same_at A2 A3 xs xs n c2 n c3 w3 HN.out HN.out (sees_own' HO2.out).2.1 (sees_own' HO3.out).2.1 (by omega) (by omega) (sees_own' HO23.out).2.2.2 (sees_own' HO3.out).2.2.2 rfl).mono ?_; rintro e w4 ⟨rfl, hb4⟩; have HO4 := Lib.hid (own_keep HO23.out hb4); have HBS4 := Lib.hid (below_step HBS3.out HBS3.out.size hb4); have HB4 := Lib.hid (below_step HB3.out HB3.out.size hb4); clear hb4)
    | (go_at_call 24; refine (num_any _ _).mono ?_; rintro e w' ⟨rfl, rfl⟩)
    | fail)
  go_loopw [13] (fun s wr => ∃ (k : Nat) (rs : List Int), s = .int .i64 (k : Int) ∧ k ≤ n ∧ rs.length = n ∧ wr.ownsRow w1.heap.size 3 1 (.slice A2 n c2) n (rs.map i64v) ∧ Outside (fun b => (Value.slice A2 n c2).ownBlock = some b) w4 wr) (fun s _ => n - (intOf s).toNat)
  case atStart => exact ⟨0, xs, rfl, Nat.zero_le _, HN.out, HO4.out, Outside.refl _ _⟩
  case round =>
    obtain ⟨k, rs, rfl, hk, hrl, hown, hor⟩ := hrel
    have HOW := Lib.hid hown
    have HOR := Lib.hid hor
    by_cases hlt : k < n
    · obtain ⟨_, g, rfl, hg, hgl⟩ := own_pos hown (by omega)
      have hfz := own_fz' hown k
      obtain ⟨u, hu⟩ : ∃ u, wr.cell? ⟨g, k, none⟩ = some u := by
        obtain ⟨ad, e, h2⟩ := ints_at (sees_own' hown).2.2.2 k (by omega)
        cases e
        rw [add_base] at h2
        exact ⟨_, h2⟩
      have hki : (k : Int) < (n : Int) := by omega
      clear hown hor
      go_wp2_with fail
      go_roundw
      case rel => exact ⟨k + 1, rs.set k (-1), by go_num, by omega, by simpa using hrl, own_set HOW.out k (-1), HOR.out.set ⟨g, k, none⟩ _ (.inr rfl)⟩
      case measure => simp [intOf]; omega
    · obtain rfl : k = n := by omega
      have hki : ¬ ((k : Int) < (k : Int)) := by omega
      have hBX : Below w.heap.size w wr := HB4.out.trans (hor.below (fun b hb => Nat.le_trans HO1.out.2.size (own_block_ge HO4.out b hb).1) HB4.out.size)
      have hX1 := own_keep HO1.out.1 (HBS4.out)
      have hSX : Sees wr A1 (is.map i64v) := (sees_own' (own_same hX1 (fun b hb => hor.block b (own_block_ge hX1 b hb).2 (fun e => Nat.lt_irrefl _ (Nat.lt_of_lt_of_le (own_block_ge HO1.out.1 b hb).2 (own_block_ge HO4.out b e).1))))).2.2.2
      have HBX := Lib.hid hBX
      have HSX := Lib.hid hSX
      clear hown hor hBX hX1 hSX
      go_wp2_with (first
        | (go_at_call 15; refine (ints_same_at A1 A is is is.length c1 is.length c wr rfl rfl (sees_own' HO1.out.1).2.1 hc (by omega) (by omega) HSX.out (HA.out.below HBX.out) rfl).mono ?_; rintro e w6 ⟨rfl, hb6⟩; have HB6 := Lib.hid (below_step HBX.out HBX.out.size hb6); clear hb6)
        | (go_at_call 12; refine (knows_any _).mono ?_; rintro e w5 ⟨rfl, hb5⟩)
        | fail)
      go_ret
      exact ⟨rfl, below_step HB6.out HB6.out.size hb5⟩
set_option maxHeartbeats 1000000 in
theorem confBack_any (A : Option Addr) (is : List Int) (c : Nat) (add : Bool) (id : Int) (w : World) (hc : is.length ≤ c) (hl : is.length * 8 ≤ 140737488351232) (hA : Sees w A (is.map i64v)) :
    Calls Try.prog 9 #[.slice A is.length c, .bool add, .int .i64 id] w (RetBool w true) := by
  have HA := Lib.hid hA
  obtain ⟨z, hz⟩ : ∃ z, changeE is add id = z := ⟨_, rfl⟩
  clear hA
  by_cases hz0 : z = 0
  · subst hz0
    obtain ⟨k1, k2, k3⟩ := change_back hz
    have HR := Lib.hid (rightB_of (change_right hz))
    have HBE := Lib.hid (beside_change hz)
    obtain ⟨xs, hx⟩ : ∃ xs, changeL is add id = xs := ⟨_, rfl⟩
    rw [hx] at k1 k2 k3 HR HBE
    obtain ⟨n, hn⟩ : ∃ n, xs.length = n := ⟨_, rfl⟩
    have hn7 : n ≤ 7 := by rw [← hn, ← hx]; exact change_few _ _ _
    have HZ := Lib.hid hz
    have HX := Lib.hid hx
    have HN := Lib.hid hn
    have HK1 := Lib.hid k1
    have HK2 := Lib.hid k2
    have HK3 := Lib.hid k3
    have e1 : (add == add) = true := by simp
    clear hz hx hn k1 k2 k3
    go_enter Try.func9, Try.ntmps9
    go_wp2_with fail
    refine (change_at A is is.length c add id xs n 0 w rfl hc (by omega) HA.out HX.out HN.out HZ.out).mono ?_
    rintro e w1 ⟨A1, c1, rfl, hown1, hb1⟩
    have HO1 := Lib.hid hown1
    have HB1 := Lib.hid hb1
    clear hown1 hb1
    go_wp2_with (first
      | (go_at_call 24; refine (num_any _ _).mono ?_; rintro e w' ⟨rfl, rfl⟩)
      | (go_at_call 22; refine (change_at A1 xs n c1 (!add) id is is.length 0 w1 HN.out (sees_own' HO1.out).2.1 (by omega) (sees_own' HO1.out).2.2.2 HK2.out rfl HK1.out).mono ?_; rintro e w2 ⟨A2, c2, rfl, hown2, hb2⟩; have HO2 := Lib.hid hown2; have HO12 := Lib.hid (own_keep HO1.out hb2); have HB2 := Lib.hid (below_step HB1.out HB1.out.size hb2); clear hown2 hb2)
      | (go_at_call 15; refine (ints_same_at A2 A is is is.length c2 is.length c w2 rfl rfl (sees_own' HO2.out).2.1 hc (by omega) (by omega) (sees_own' HO2.out).2.2.2 (HA.out.below HB2.out) rfl).mono ?_; rintro e w3 ⟨rfl, hb3⟩; have HO13 := Lib.hid (own_keep HO12.out hb3); have HB3 := Lib.hid (below_step HB2.out HB2.out.size hb3); clear hb3)
      | (go_at_call 16; refine (right_at A1 xs n c1 true w3 HN.out (sees_own' HO1.out).2.1 (by omega) (sees_own' HO13.out).2.2.2 HR.out).mono ?_; rintro e w4 ⟨rfl, hb4⟩; have HO14 := Lib.hid (own_keep HO13.out hb4); have HB4 := Lib.hid (below_step HB3.out HB3.out.size hb4); clear hb4)
      | (go_at_call 18; refine (has_at A1 xs n c1 id add w4 HN.out (sees_own' HO1.out).2.1 (by omega) (sees_own' HO14.out).2.2.2 HK3.out).mono ?_; rintro e w' ⟨rfl, rfl⟩)
      | (go_at_call 10; refine (beside_at A A1 is xs is.length c n c1 true w4 rfl HN.out hc (sees_own' HO1.out).2.1 (by omega) (by omega) (HA.out.below HB4.out) (sees_own' HO14.out).2.2.2 HBE.out).mono ?_; rintro e w5 ⟨rfl, hb5⟩; have HB5 := Lib.hid (below_step HB4.out HB4.out.size hb5); clear hb5)
      | (go_at_call 12; refine (knows_any _).mono ?_; rintro e w6 ⟨rfl, hb6⟩)
      | fail)
    go_ret
    exact ⟨rfl, below_step HB5.out HB5.out.size hb6⟩
  · have hx := changeL_err hz hz0
    have e1 : (z != 0) = true := by simp [hz0]
    have HZ := Lib.hid hz
    have HX := Lib.hid hx
    clear hz hz0 hx
    go_enter Try.func9, Try.ntmps9
    go_wp2_with fail
    refine (change_at A is is.length c add id [] 0 z w rfl hc (by omega) HA.out HX.out rfl HZ.out).mono ?_
    rintro e w1 ⟨A1, c1, rfl, hown1, hb1⟩
    have HB1 := Lib.hid hb1
    clear hown1 hb1
    go_wp2_with (first
      | (go_at_call 24; refine (num_any _ _).mono ?_; rintro e w' ⟨rfl, rfl⟩)
      | (go_at_call 12; refine (knows_any _).mono ?_; rintro e w6 ⟨rfl, hb6⟩)
      | fail)
    go_ret
    exact ⟨rfl, below_step HB1.out HB1.out.size hb6⟩
end Go.Proofs.Ytopcgnilajmnhaa
