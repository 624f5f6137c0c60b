/-
  Layer 11: Beside, the reference's.
-/
import Derived.Test.YtopcgnilajmnhaaConf7
set_option linter.unusedVariables false
set_option linter.unusedSimpArgs false
namespace Go.Proofs.Ytopcgnilajmnhaa
open Go.RowKit

def hitB (a b : List Int) (i : Int) : Bool := decide (changeE a (!hasB a i) i = 0) && sameB (refL a (!hasB a i) i) b
theorem refBeside_no {a b : List Int} (h1 : sameB a b = false) (h : ∀ i : Nat, i < 16 → hitB a b (i : Int) = false) : refBesideB a b = false := by
  unfold refBesideB
  rw [h1, Bool.false_or, Bool.and_eq_false_iff]
  right
  rw [Bool.and_eq_false_iff]
  right
  rw [List.any_eq_false]
  intro x hx
  have := mem_ints16.1 hx
  have h2 := h x.toNat (by omega)
  rw [Int.toNat_of_nonneg this.1] at h2
  unfold hitB at h2
  simpa using h2
theorem refBeside_yes {a b : List Int} {i : Nat} (ha : rightB a = true) (hb : rightB b = true) (hi : i < 16) (h : hitB a b (i : Int) = true) : refBesideB a b = true := by
  unfold refBesideB
  rw [ha, hb, Bool.true_and, Bool.true_and, Bool.or_eq_true]
  right
  rw [List.any_eq_true]
  exact ⟨(i : Int), mem_ints16.2 (by omega), h⟩
theorem refL_len (l : List Int) (add : Bool) (id : Int) : (refL l add id).length ≤ 16 := by
  rw [← refL_eq]
  exact refK_len l add id 16
def RetXs (w : World) (xs : List Int) (z : Int) (e : Ending) (w' : World) : Prop :=
  ∃ A c, e = .returned (.tuple #[.slice A xs.length c, .int .i64 z]) ∧ w'.ownsRow w.heap.size 3 1 (.slice A xs.length c) xs.length (xs.map i64v) ∧ Below w.heap.size w w'
set_option maxHeartbeats 2000000 in
theorem refbeside_any (A B : Option Addr) (is js : List Int) (c d : Nat) (w : World) (hc : is.length ≤ c) (hd : js.length ≤ d) (hl : is.length ≤ 140737488355328) (hl2 : js.length ≤ 140737488355328) (hA : Sees w A (is.map i64v)) (hB : Sees w B (js.map i64v)) :
    Calls Try.prog 11 #[.slice A is.length c, .slice B js.length d] w (RetBool w (refBesideB is js)) := by
  have HA := Lib.hid hA
  have HB := Lib.hid hB
  clear hA hB
  cases hr : rightB is with
  | false =>
    have HRa := Lib.hid hr
    have HE : Hid (refBesideB is js = false) := Lib.hid (by unfold refBesideB; rw [hr]; rfl)
    clear hr
    go_enter Try.func11, Try.ntmps11
    go_wp2_with fail
    refine (refright11_any A is c _ hc hl HA.out).mono ?_
    rintro e w1 ⟨rfl, hw1⟩
    rw [HRa.out]
    have hb1 := below_of_drew hw1
    clear hw1
    go_wp2_with fail
    go_ret
    exact ⟨by rw [HE.out]; rfl, hb1⟩
  | true =>
    cases hs : rightB js with
    | false =>
      have HRa := Lib.hid hr
      have HRb := Lib.hid hs
      have HE : Hid (refBesideB is js = false) := Lib.hid (by unfold refBesideB; rw [hr, hs]; rfl)
      clear hr hs
      go_enter Try.func11, Try.ntmps11
      go_wp2_with fail
      refine (refright11_any A is c _ hc hl HA.out).mono ?_
      rintro e w1 ⟨rfl, hw1⟩
      rw [HRa.out]
      have hb1 := below_of_drew hw1
      clear hw1
      go_wp2_with fail
      refine (refright11_any B js d _ hd hl2 (HB.out.below hb1)).mono ?_
      rintro e w2 ⟨rfl, hw2⟩
      rw [HRb.out]
      have hb2 := below_step hb1 hb1.size (below_of_drew hw2)
      clear hw2
      go_wp2_with fail
      go_ret
      exact ⟨by rw [HE.out]; rfl, hb2⟩
    | true =>
      have HRa := Lib.hid hr
      have HRb := Lib.hid hs
      clear hr hs
      obtain ⟨sb, hsb⟩ : ∃ sb, sameB is js = sb := ⟨_, rfl⟩
      have HSB := Lib.hid hsb
      clear hsb
      cases sb with
      | true =>
        have HE : Hid (refBesideB is js = true) := Lib.hid (by unfold refBesideB; rw [HRa.out, HRb.out, HSB.out]; rfl)
        go_enter Try.func11, Try.ntmps11
        go_wp2_with fail
        refine (refright11_any A is c _ hc hl HA.out).mono ?_
        rintro e w1 ⟨rfl, hw1⟩
        rw [HRa.out]
        have hb1 := below_of_drew hw1
        clear hw1
        go_wp2_with fail
        refine (refright11_any B js d _ hd hl2 (HB.out.below hb1)).mono ?_
        rintro e w2 ⟨rfl, hw2⟩
        rw [HRb.out]
        have HB2 := Lib.hid (below_step hb1 hb1.size (below_of_drew hw2))
        clear hw2 hb1
        go_wp2_with (first
          | (go_at_call 27; refine (refsame_any A B is js c d _ hc hd hl hl2 (HA.out.below HB2.out) (HB.out.below HB2.out)).mono ?_; rintro e w3 ⟨rfl, hw3⟩; rw [HSB.out])
          | fail)
        go_ret
        exact ⟨by rw [HE.out]; rfl, below_step HB2.out HB2.out.size (below_of_drew hw3)⟩
      | false =>
        go_enter Try.func11, Try.ntmps11
        go_wp2_with fail
        refine (refright11_any A is c _ hc hl HA.out).mono ?_
        rintro e w1 ⟨rfl, hw1⟩
        rw [HRa.out]
        have hb1 := below_of_drew hw1
        clear hw1
        go_wp2_with fail
        refine (refright11_any B js d _ hd hl2 (HB.out.below hb1)).mono ?_
        rintro e w2 ⟨rfl, hw2⟩
        rw [HRb.out]
        have HB2 := Lib.hid (below_step hb1 hb1.size (below_of_drew hw2))
        clear hw2 hb1
        go_wp2_with (first
          | (go_at_call 27; refine (refsame_any A B is js c d _ hc hd hl hl2 (HA.out.below HB2.out) (HB.out.below HB2.out)).mono ?_; rintro e w3 ⟨rfl, hw3⟩; rw [HSB.out]; have HB3 := Lib.hid (below_step HB2.out HB2.out.size (below_of_drew hw3)); clear hw3)
          | fail)
        go_loopw [5] (fun s wr => ∃ k : Nat, s = .int .i64 (k : Int) ∧ k ≤ 16 ∧ (∀ i : Nat, i < k → hitB is js (i : Int) = false) ∧ Below w.heap.size w wr) (fun s _ => 16 - (intOf s).toNat)
        case atStart => exact ⟨0, rfl, by omega, fun i hi => by omega, HB3.out⟩
        case round =>
          obtain ⟨k, rfl, hk, hno, hbw⟩ := hrel
          have HNO := Lib.hid hno
          have HBW := Lib.hid hbw
          clear hno hbw
          by_cases hlt : k < 16
          · have hki : (k : Int) < 16 := by omega
            obtain ⟨hb, hhb⟩ : ∃ hb, hasB is (k : Int) = hb := ⟨_, rfl⟩
            have HH := Lib.hid hhb
            have hch := refchange_any A is c (!hb) (k : Int) wr hc hl (HA.out.below HBW.out)
            obtain ⟨z, hz⟩ : ∃ z, changeE is (!hb) (k : Int) = z := ⟨_, rfl⟩
            obtain ⟨xs, hxs⟩ : ∃ xs, refchangeL is (!hb) (k : Int) = xs := ⟨_, rfl⟩
            rw [hz, hxs] at hch
            have HCH := Lib.hid hch
            have HZ := Lib.hid hz
            have HXS := Lib.hid hxs
            clear hhb hz hxs hch
            by_cases hz0 : z = 0
            · subst hz0
              have HXL : Hid (xs = refL is (!hb) (k : Int)) := Lib.hid (by rw [← HXS.out]; unfold refchangeL; rw [if_pos HZ.out])
              have hxl : xs.length ≤ 16 := by rw [HXL.out]; exact refL_len _ _ _
              obtain ⟨s2, hs2⟩ : ∃ s2, sameB xs js = s2 := ⟨_, rfl⟩
              have HS2 := Lib.hid hs2
              have HHIT : Hid (hitB is js (k : Int) = s2) := Lib.hid (by unfold hitB; rw [HH.out, HZ.out, ← HXL.out, hs2]; simp)
              clear hs2
              cases s2 with
              | true =>
                have HE := Lib.hid (refBeside_yes HRa.out HRb.out hlt HHIT.out)
                go_wp2_with (first
                  | (go_at_call 19; refine (refhas_any A is c (k : Int) _ hc hl (HA.out.below HBW.out)).mono ?_; rintro e w' ⟨rfl, rfl⟩; rw [HH.out])
                  | (go_at_call 23; refine HCH.out.mono ?_; rintro e w4 ⟨A4, c4, rfl, hown4, hb4⟩; have HB4 := Lib.hid (below_step HBW.out HBW.out.size hb4); have HO4 := Lib.hid hown4; clear hown4 hb4)
                  | (go_at_call 27; refine (refsame_any A4 B xs js c4 d _ (sees_own' HO4.out).2.1 hd (by omega) hl2 (sees_own' HO4.out).2.2.2 (HB.out.below HB4.out)).mono ?_; rintro e w5 ⟨rfl, hw5⟩; rw [HS2.out]; have HB5 := Lib.hid (below_step HB4.out HB4.out.size (below_of_drew hw5)); clear hw5)
                  | fail)
                go_ret
                exact ⟨by rw [HE.out]; rfl, HB5.out⟩
              | false =>
                go_wp2_with (first
                  | (go_at_call 19; refine (refhas_any A is c (k : Int) _ hc hl (HA.out.below HBW.out)).mono ?_; rintro e w' ⟨rfl, rfl⟩; rw [HH.out])
                  | (go_at_call 23; refine HCH.out.mono ?_; rintro e w4 ⟨A4, c4, rfl, hown4, hb4⟩; have HB4 := Lib.hid (below_step HBW.out HBW.out.size hb4); have HO4 := Lib.hid hown4; clear hown4 hb4)
                  | (go_at_call 27; refine (refsame_any A4 B xs js c4 d _ (sees_own' HO4.out).2.1 hd (by omega) hl2 (sees_own' HO4.out).2.2.2 (HB.out.below HB4.out)).mono ?_; rintro e w5 ⟨rfl, hw5⟩; rw [HS2.out]; have HB5 := Lib.hid (below_step HB4.out HB4.out.size (below_of_drew hw5)); clear hw5)
                  | fail)
                go_roundw
                case rel => exact ⟨k + 1, by go_num, by omega, forall_lt.2 ⟨HNO.out, HHIT.out⟩, HB5.out⟩
                case measure => simp [intOf]; omega
            · have hz1 : (z == 0) = false := by simp [hz0]
              have HHIT : Hid (hitB is js (k : Int) = false) := Lib.hid (by unfold hitB; rw [HH.out, HZ.out]; simp [hz0])
              clear hz0
              go_wp2_with (first
                | (go_at_call 19; refine (refhas_any A is c (k : Int) _ hc hl (HA.out.below HBW.out)).mono ?_; rintro e w' ⟨rfl, rfl⟩; rw [HH.out])
                | (go_at_call 23; refine HCH.out.mono ?_; rintro e w4 ⟨A4, c4, rfl, hown4, hb4⟩; have HB4 := Lib.hid (below_step HBW.out HBW.out.size hb4); clear hown4 hb4)
                | fail)
              go_roundw
              case rel => exact ⟨k + 1, by go_num, by omega, forall_lt.2 ⟨HNO.out, HHIT.out⟩, HB4.out⟩
              case measure => simp [intOf]; omega
          · obtain rfl : k = 16 := by omega
            have HE := Lib.hid (refBeside_no HSB.out HNO.out)
            go_wp2_with fail
            go_ret
            exact ⟨by rw [HE.out]; rfl, HBW.out⟩
end Go.Proofs.Ytopcgnilajmnhaa
