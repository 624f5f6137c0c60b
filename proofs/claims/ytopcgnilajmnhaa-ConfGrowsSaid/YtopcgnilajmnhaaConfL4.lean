/-
  Layer 11: the law ConfMeet: the walk.
-/
import Derived.Test.YtopcgnilajmnhaaConfL3
set_option linter.unusedVariables false
set_option linter.unusedSimpArgs false
namespace Go.Proofs.Ytopcgnilajmnhaa
open Go.RowKit

theorem inside_at (A B : Option Addr) (l who xs : List Int) (n c m d k : Nat) (w : World) (hn : l.length = n) (hm : who.length = m) (hx : insideL l who = xs) (hk : xs.length = k) (hc : n ≤ c) (hd : m ≤ d) (hl : (n + 1) * 8 ≤ 140737488355328) (hl2 : m ≤ 140737488355328) (hA : Sees w A (l.map i64v)) (hB : Sees w B (who.map i64v)) :
    Calls Try.prog 25 #[.slice A n c, .slice B m d] w (RetInts w k xs) := by
  subst hn hm hx hk
  exact inside_any A B l who c d w hc hd hl hl2 hA hB
set_option maxHeartbeats 2000000 in
theorem confMeet_any (A : Option Addr) (is : List Int) (c : Nat) (add : Bool) (id : Int) (B : Option Addr) (aa : List Int) (d : Nat) (C : Option Addr) (bs : List Int) (f : Nat) (w : World) (hc : is.length ≤ c) (hl : is.length * 8 ≤ 140737488351232) (hA : Sees w A (is.map i64v))
    (hd : aa.length ≤ d) (hl2 : aa.length * 8 ≤ 140737488351232) (hB : Sees w B (aa.map i64v)) (hf : bs.length ≤ f) (hl3 : bs.length * 8 ≤ 140737488351232) (hC : Sees w C (bs.map i64v)) :
    Calls Try.prog 8 #[.slice A is.length c, .bool add, .int .i64 id, .slice B aa.length d, .slice C bs.length f] w (RetBool w true) := by
  have HA := Lib.hid hA
  have HB := Lib.hid hB
  have HC := Lib.hid hC
  obtain ⟨z, hz⟩ : ∃ z, changeE is add id = z := ⟨_, rfl⟩
  clear hA hB hC
  by_cases hz0 : z = 0
  · subst hz0
    obtain ⟨ms, hx⟩ : ∃ ms, changeL is add id = ms := ⟨_, rfl⟩
    obtain ⟨n, hn⟩ : ∃ n, ms.length = n := ⟨_, rfl⟩
    have hn7 : n ≤ 7 := by rw [← hn, ← hx]; exact change_few _ _ _
    have hi7 : is.length ≤ 7 := (rightP_of (changeE_zero.1 hz).1).most
    obtain ⟨xs, hxs⟩ : ∃ xs, insideL is aa = xs := ⟨_, rfl⟩
    obtain ⟨ys, hys⟩ : ∃ ys, insideL ms bs = ys := ⟨_, rfl⟩
    obtain ⟨n2, hn2⟩ : ∃ n2, xs.length = n2 := ⟨_, rfl⟩
    obtain ⟨n3, hn3⟩ : ∃ n3, ys.length = n3 := ⟨_, rfl⟩
    obtain ⟨q1, hq1⟩ : ∃ q1, quorN is.length = q1 := ⟨_, rfl⟩
    obtain ⟨q2, hq2⟩ : ∃ q2, quorN n = q2 := ⟨_, rfl⟩
    have hn2b : n2 ≤ 7 := by rw [← hn2, ← hxs]; exact Nat.le_trans (inside_len _ _) hi7
    have hn3b : n3 ≤ 7 := by rw [← hn3, ← hys]; exact Nat.le_trans (inside_len _ _) (by rw [hn]; exact hn7)
    have HM : Hid (q1 ≤ n2 → q2 ≤ n3 → (∀ x ∈ xs, x ∉ ys) → False) := Lib.hid fun h1 h2 h3 => by
      subst hx hn hxs hys hn2 hn3 hq1 hq2
      exact quorums_meet hz h1 h2 h3
    have HZ := Lib.hid hz
    have HX := Lib.hid hx
    have HN := Lib.hid hn
    have HXS := Lib.hid hxs
    have HYS := Lib.hid hys
    have HN2 := Lib.hid hn2
    have HN3 := Lib.hid hn3
    have HQ1 := Lib.hid hq1
    have HQ2 := Lib.hid hq2
    clear hz hx hn hxs hys hn2 hn3 hq1 hq2
    go_enter Try.func8, Try.ntmps8
    go_wp2_with fail
    refine (change_at A is is.length c add id ms n 0 w rfl hc (by omega) HA.out HX.out HN.out HZ.out).mono ?_
    rintro e w1 ⟨A1, c1, rfl, hown1, hb1⟩
    have HO1 := Lib.hid hown1
    have HB1 := Lib.hid hb1
    clear hown1 hb1
    go_wp2_with (first
      | (go_at_call 24; refine (num_any _ _).mono ?_; rintro e w' ⟨rfl, rfl⟩)
      | fail)
    refine (inside_at A B is aa xs is.length c aa.length d n2 w1 rfl rfl HXS.out HN2.out hc hd (by omega) (by omega) (HA.out.below HB1.out) (HB.out.below HB1.out)).mono ?_
    rintro e w2 ⟨A2, c2, rfl, hown2, hb2⟩
    have HO2 := Lib.hid hown2
    have HO12 := Lib.hid (own_keep HO1.out hb2)
    have HB2 := Lib.hid (below_step HB1.out HB1.out.size hb2)
    clear hown2 hb2
    go_wp2_with fail
    refine (inside_at A1 C ms bs ys n c1 bs.length f n3 w2 HN.out rfl HYS.out HN3.out (sees_own' HO1.out).2.1 hf (by omega) (by omega) (sees_own' HO12.out).2.2.2 (HC.out.below HB2.out)).mono ?_
    rintro e w3 ⟨A3, c3, rfl, hown3, hb3⟩
    have HO3 := Lib.hid hown3
    have HO23 := Lib.hid (own_keep HO2.out hb3)
    have HB3 := Lib.hid (below_step HB2.out HB2.out.size hb3)
    clear hown3 hb3
    by_cases h1 : n2 < q1
    · have h1i : (n2 : Int) < (q1 : Int) := by omega
      go_wp2_with (first
        | (go_at_call 20; refine (quorum_at A is.length c q1 w3 (by omega) HQ1.out).mono ?_; rintro e w' ⟨rfl, rfl⟩)
        | (go_at_call 12; refine (knows_any _).mono ?_; rintro e w6 ⟨rfl, hb6⟩)
        | fail)
      go_ret
      exact ⟨rfl, below_step HB3.out HB3.out.size hb6⟩
    have h1i : ¬ (n2 : Int) < (q1 : Int) := by omega
    have d1 : decide (n2 < q1) = false := decide_eq_false h1
    by_cases h2 : n3 < q2
    · have h2i : (n3 : Int) < (q2 : Int) := by omega
      go_wp2_with (first
        | (go_at_call_of 20 (Value.slice A is.length c); refine (quorum_at A is.length c q1 w3 (by omega) HQ1.out).mono ?_; rintro e w' ⟨rfl, rfl⟩)
        | (go_at_call 20; refine (quorum_at A1 n c1 q2 w3 (by omega) HQ2.out).mono ?_; rintro e w' ⟨rfl, rfl⟩)
        | (go_at_call 12; refine (knows_any _).mono ?_; rintro e w6 ⟨rfl, hb6⟩)
        | fail)
      go_ret
      exact ⟨rfl, below_step HB3.out HB3.out.size hb6⟩
    have h2i : ¬ (n3 : Int) < (q2 : Int) := by omega
    have d2 : decide (n3 < q2) = false := decide_eq_false h2
    go_wp2_with (first
      | (go_at_call_of 20 (Value.slice A is.length c); refine (quorum_at A is.length c q1 w3 (by omega) HQ1.out).mono ?_; rintro e w' ⟨rfl, rfl⟩)
      | (go_at_call 20; refine (quorum_at A1 n c1 q2 w3 (by omega) HQ2.out).mono ?_; rintro e w' ⟨rfl, rfl⟩)
      | fail)
    go_loop [15] (fun s => ∃ k : Nat, s = .int .i64 (k : Int) ∧ k ≤ n2 ∧ ∀ i, i < k → xs.getD i 0 ∉ ys) (fun s => n2 - (intOf s).toNat)
    case atStart => exact ⟨0, rfl, Nat.zero_le _, fun i hi => by omega⟩
    case round =>
      obtain ⟨k, rfl, hk, hno⟩ := hrel
      have HNO := Lib.hid hno
      clear hno
      by_cases hlt : k < n2
      · have hki : (k : Int) < (n2 : Int) := by omega
        have hkx : k < xs.length := by rw [HN2.out]; exact hlt
        obtain ⟨ad, e, hcell⟩ := ints_at (sees_own' HO23.out).2.2.2 k hkx
        subst e
        have HG := Lib.hid (getD_at hkx)
        obtain ⟨x, hx⟩ : ∃ x, xs[k] = x := ⟨_, rfl⟩
        rw [hx] at hcell HG
        clear hx
        obtain ⟨hb, hhb⟩ : ∃ hb, hasB ys x = hb := ⟨_, rfl⟩
        have HHB := Lib.hid hhb
        clear hhb
        cases hb with
        | true =>
          go_wp2_with (first
            | (go_at_call 18; refine (has_at A3 ys n3 c3 x true w3 HN3.out (sees_own' HO3.out).2.1 (by omega) (sees_own' HO3.out).2.2.2 HHB.out).mono ?_; rintro e w' ⟨rfl, rfl⟩)
            | (go_at_call 12; refine (knows_any _).mono ?_; rintro e w6 ⟨rfl, hb6⟩)
            | fail)
          go_ret
          exact ⟨rfl, below_step HB3.out HB3.out.size hb6⟩
        | false =>
          go_wp2_with (first
            | (go_at_call 18; refine (has_at A3 ys n3 c3 x false w3 HN3.out (sees_own' HO3.out).2.1 (by omega) (sees_own' HO3.out).2.2.2 HHB.out).mono ?_; rintro e w' ⟨rfl, rfl⟩)
            | fail)
          go_round
          case rel => exact ⟨k + 1, by go_num, by omega, forall_lt.2 ⟨HNO.out, by rw [HG.out]; intro hm; have := HHB.out; rw [hasB_mem.2 hm] at this; cases this⟩⟩
          case measure => simp [intOf]; omega
      · exfalso
        refine HM.out (by omega) (by omega) fun x hx => ?_
        obtain ⟨i, hi, rfl⟩ := List.getElem_of_mem hx
        have := HNO.out i (by have := HN2.out; omega)
        rwa [getD_at hi] at this
  · have hx := changeL_err hz hz0
    have e1 : (z != 0) = true := by simp [hz0]
    have HZ := Lib.hid hz
    have HX := Lib.hid hx
    clear hz hz0 hx
    go_enter Try.func8, Try.ntmps8
    go_wp2_with fail
    refine (change_at A is is.length c add id [] 0 z w rfl hc (by omega) HA.out HX.out rfl HZ.out).mono ?_
    rintro e w1 ⟨A1, c1, rfl, hown1, hb1⟩
    have HB1 := Lib.hid hb1
    clear hown1 hb1
    go_wp2_with (first
      | (go_at_call 24; refine (num_any _ _).mono ?_; rintro e w' ⟨rfl, rfl⟩)
      | (go_at_call 12; refine (knows_any _).mono ?_; rintro e w6 ⟨rfl, hb6⟩)
      | fail)
    go_ret
    exact ⟨rfl, below_step HB1.out HB1.out.size hb6⟩
end Go.Proofs.Ytopcgnilajmnhaa
