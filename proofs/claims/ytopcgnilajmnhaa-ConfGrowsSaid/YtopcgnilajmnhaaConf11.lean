/-
  Layer 11: Nth, the reference's.
-/
import Derived.Test.YtopcgnilajmnhaaConf10
set_option linter.unusedVariables false
set_option linter.unusedSimpArgs false
namespace Go.Proofs.Ytopcgnilajmnhaa
open Go.RowKit

theorem cnt_take {P : List Int} {k : Nat} (hk : k < P.length) (t : Int) : cntN (P.take (k + 1)) t = cntN (P.take k) t + if t ≤ P[k] then 1 else 0 := by
  rw [List.take_succ_eq_append_getElem hk, cnt_append]
  congr 1
  unfold cntN
  by_cases h : t ≤ P[k] <;> simp [h]
theorem pad_at {n : Nat} {of P : List Int} (hP : pad n of = P) {k : Nat} (hk : k < n) (hkP : k < P.length) : P[k] = of.getD k 0 := by
  subst hP
  have := pad_get (of := of) hk
  rw [List.getElem?_eq_getElem hkP] at this
  exact Option.some.inj this
set_option maxHeartbeats 1000000 in
theorem refnth_any (A B : Option Addr) (n : Nat) (of : List Int) (c d : Nat) (w : World) (hd : of.length ≤ d) (hn : n * 8 ≤ 140737488355328) (hl : of.length ≤ 140737488355328) (hB : Sees w B (of.map i64v)) :
    Calls Try.prog 14 #[.slice A n c, .slice B of.length d] w fun e w' => e = .returned (.int .i64 (nthV n of)) ∧ w = w' := by
  have HB := Lib.hid hB
  clear hB
  obtain ⟨q, hq⟩ : ∃ q, quorN n = q := ⟨_, rfl⟩
  have HQ := Lib.hid hq
  obtain ⟨P, hP⟩ : ∃ P, pad n of = P := ⟨_, rfl⟩
  have HP := Lib.hid hP
  have HPL : Hid (P.length = n) := Lib.hid (by rw [← hP, pad_len])
  clear hq hP
  go_enter Try.func14, Try.ntmps14
  go_wp2_with fail
  go_loop [5, 6, 7] (fun s5 s6 s7 => ∃ k : Nat, s7 = .int .i64 (k : Int) ∧ k ≤ n ∧ s5 = .int .i64 (refFold P k).1 ∧ s6 = .bool (refFold P k).2) (fun _ _ s7 => n - (intOf s7).toNat)
  case atStart => exact ⟨0, rfl, Nat.zero_le _, rfl, rfl⟩
  case round =>
    obtain ⟨k, rfl, hk, rfl, rfl⟩ := hrel
    by_cases hlt : k < n
    · have hki : (k : Int) < (n : Int) := by omega
      have hkP : k < P.length := by rw [HPL.out]; exact hlt
      have HPK := Lib.hid (pad_at HP.out hlt hkP)
      have HFS := Lib.hid (refFold_succ P hkP)
      obtain ⟨best, hbe⟩ : ∃ best, (refFold P k).1 = best := ⟨_, rfl⟩
      obtain ⟨found, hfo⟩ : ∃ found, (refFold P k).2 = found := ⟨_, rfl⟩
      have HBE := Lib.hid hbe
      have HFO := Lib.hid hfo
      rw [hbe, hfo]
      clear hbe hfo
      by_cases hko : k < of.length
      · have hkoi : (k : Int) < (of.length : Int) := by omega
        obtain ⟨ad, rfl, hcell⟩ := ints_at HB.out k hko
        have HV : Hid (P[k] = of[k]) := Lib.hid (by rw [HPK.out, getD_at hko])
        obtain ⟨v, hv⟩ : ∃ v, of[k] = v := ⟨_, rfl⟩
        rw [hv] at hcell HV
        clear hv
--REST
        go_wp2_with fail
        go_loop [9, 10] (fun s9 s10 => ∃ m : Nat, s10 = .int .i64 (m : Int) ∧ m ≤ n ∧ s9 = .int .i64 (cntN (P.take m) v : Int)) (fun _ s10 => n - (intOf s10).toNat)
        case atStart => exact ⟨0, rfl, Nat.zero_le _, rfl⟩
        case round =>
          obtain ⟨m, rfl, hm, rfl⟩ := hrel
          have hcl := cnt_le (P.take m) v
          have hcl2 : cntN (P.take m) v ≤ n := Nat.le_trans hcl (by rw [List.length_take]; omega)
          have hcl3 : (cntN (P.take m) v : Int) ≤ (n : Int) := by omega
          clear hcl hcl2
          by_cases hmlt : m < n
          · have hmi : (m : Int) < (n : Int) := by omega
            have hmP : m < P.length := by rw [HPL.out]; exact hmlt
            have HPM := Lib.hid (pad_at HP.out hmlt hmP)
            have HCT := Lib.hid (cnt_take hmP v)
            by_cases hmo : m < of.length
            · have hmoi : (m : Int) < (of.length : Int) := by omega
              have hmo2 : ¬ (of.length : Int) ≤ (m : Int) := by omega
              obtain ⟨ad2, e2, hcell2⟩ := ints_at HB.out m hmo
              cases e2
              obtain ⟨u, hu⟩ : ∃ u, of[m] = u := ⟨_, rfl⟩
              rw [hu] at hcell2
              have HU : Hid (P[m] = u) := Lib.hid (by rw [HPM.out, getD_at hmo, hu])
              clear hu
              by_cases hvu : v ≤ u
              · go_wp2_with fail
                go_round
                case rel => exact ⟨m + 1, by go_num, by omega, by rw [HCT.out, HU.out, if_pos hvu]; go_num⟩
                case measure => simp [intOf]; omega
              · go_wp2_with fail
                go_round
                case rel => exact ⟨m + 1, by go_num, by omega, by rw [HCT.out, HU.out, if_neg hvu]; rfl⟩
                case measure => simp [intOf]; omega
            · have hmoi : ¬ (m : Int) < (of.length : Int) := by omega
              have hmo2 : (of.length : Int) ≤ (m : Int) := by omega
              have HU : Hid (P[m] = 0) := Lib.hid (by rw [HPM.out, List.getD_eq_getElem?_getD, List.getElem?_eq_none (by omega)]; rfl)
              by_cases hvu : v ≤ 0
              · go_wp2_with fail
                go_round
                case rel => exact ⟨m + 1, by go_num, by omega, by rw [HCT.out, HU.out, if_pos hvu]; go_num⟩
                case measure => simp [intOf]; omega
              · go_wp2_with fail
                go_round
                case rel => exact ⟨m + 1, by go_num, by omega, by rw [HCT.out, HU.out, if_neg hvu]; rfl⟩
                case measure => simp [intOf]; omega
          · obtain rfl : m = n := by omega
            have hmi : ¬ ((m : Int) < (m : Int)) := by omega
            have HCN : Hid (cntN (P.take m) v = cntN P v) := Lib.hid (by rw [← HPL.out, List.take_length])
            obtain ⟨cn, hcn⟩ : ∃ cn, cntN (P.take m) v = cn := ⟨_, rfl⟩
            rw [hcn] at HCN hcl3
            rw [hcn]
            clear hcn
            by_cases hqc : q ≤ cn
            · have hqi : (q : Int) ≤ (cn : Int) := by omega
              by_cases hup : found = false ∨ best < v
              · have HR : Hid (refFold P (k + 1) = (v, true)) := Lib.hid (by rw [HFS.out]; unfold refStep; rw [HPL.out, HQ.out, HV.out, ← HCN.out, HBE.out, HFO.out, if_pos ⟨hqc, hup⟩])
                cases found with
                | false =>
                  clear hup
                  go_wp2_with (first
                    | (go_at_call 21; refine (refquorum_at A m c q _ (by omega) HQ.out).mono ?_; rintro e w' ⟨rfl, rfl⟩)
                    | fail)
                  go_round
                  case rel => exact ⟨k + 1, by go_num, by omega, by rw [HR.out], by rw [HR.out]⟩
                  case measure => simp [intOf]; omega
                | true =>
                  have hbv : best < v := hup.resolve_left (by decide)
                  clear hup
                  go_wp2_with (first
                    | (go_at_call 21; refine (refquorum_at A m c q _ (by omega) HQ.out).mono ?_; rintro e w' ⟨rfl, rfl⟩)
                    | fail)
                  go_round
                  case rel => exact ⟨k + 1, by go_num, by omega, by rw [HR.out], by rw [HR.out]⟩
                  case measure => simp [intOf]; omega
              · have HR : Hid (refFold P (k + 1) = refFold P k) := Lib.hid (by rw [HFS.out]; unfold refStep; rw [if_neg]; rintro ⟨_, h⟩; rw [HV.out, HBE.out, HFO.out] at h; exact hup h)
                rw [not_or] at hup
                obtain ⟨hf1, hbv⟩ := hup
                have hf2 : found = true := by simpa using hf1
                clear hf1
                subst hf2
                go_wp2_with (first
                  | (go_at_call 21; refine (refquorum_at A m c q _ (by omega) HQ.out).mono ?_; rintro e w' ⟨rfl, rfl⟩)
                  | fail)
                go_round
                case rel => exact ⟨k + 1, by go_num, by omega, by rw [HR.out, HBE.out], by rw [HR.out, HFO.out]⟩
                case measure => simp [intOf]; omega
            · have hqi : ¬ (q : Int) ≤ (cn : Int) := by omega
              have HR : Hid (refFold P (k + 1) = refFold P k) := Lib.hid (by rw [HFS.out]; unfold refStep; rw [if_neg]; rintro ⟨h, _⟩; rw [HPL.out, HQ.out, HV.out, ← HCN.out] at h; exact hqc h)
              go_wp2_with (first
                | (go_at_call 21; refine (refquorum_at A m c q _ (by omega) HQ.out).mono ?_; rintro e w' ⟨rfl, rfl⟩)
                | fail)
              go_round
              case rel => exact ⟨k + 1, by go_num, by omega, by rw [HR.out, HBE.out], by rw [HR.out, HFO.out]⟩
              case measure => simp [intOf]; omega
      · have hkoi : ¬ (k : Int) < (of.length : Int) := by omega
        have HV : Hid (P[k] = 0) := Lib.hid (by rw [HPK.out, List.getD_eq_getElem?_getD, List.getElem?_eq_none (by omega)]; rfl)
        obtain ⟨v, hv⟩ : ∃ v : Int, 0 = v := ⟨_, rfl⟩
        rw [hv] at HV
        subst hv
        go_wp2_with fail
        go_loop [9, 10] (fun s9 s10 => ∃ m : Nat, s10 = .int .i64 (m : Int) ∧ m ≤ n ∧ s9 = .int .i64 (cntN (P.take m) 0 : Int)) (fun _ s10 => n - (intOf s10).toNat)
        case atStart => exact ⟨0, rfl, Nat.zero_le _, rfl⟩
        case round =>
          obtain ⟨m, rfl, hm, rfl⟩ := hrel
          have hcl := cnt_le (P.take m) 0
          have hcl2 : cntN (P.take m) 0 ≤ n := Nat.le_trans hcl (by rw [List.length_take]; omega)
          have hcl3 : (cntN (P.take m) 0 : Int) ≤ (n : Int) := by omega
          clear hcl hcl2
          by_cases hmlt : m < n
          · have hmi : (m : Int) < (n : Int) := by omega
            have hmP : m < P.length := by rw [HPL.out]; exact hmlt
            have HPM := Lib.hid (pad_at HP.out hmlt hmP)
            have HCT := Lib.hid (cnt_take hmP 0)
            by_cases hmo : m < of.length
            · have hmoi : (m : Int) < (of.length : Int) := by omega
              have hmo2 : ¬ (of.length : Int) ≤ (m : Int) := by omega
              obtain ⟨ad2, rfl, hcell2⟩ := ints_at HB.out m hmo
              obtain ⟨u, hu⟩ : ∃ u, of[m] = u := ⟨_, rfl⟩
              rw [hu] at hcell2
              have HU : Hid (P[m] = u) := Lib.hid (by rw [HPM.out, getD_at hmo, hu])
              clear hu
              by_cases hvu : (0 : Int) ≤ u
              · go_wp2_with fail
                go_round
                case rel => exact ⟨m + 1, by go_num, by omega, by rw [HCT.out, HU.out, if_pos hvu]; go_num⟩
                case measure => simp [intOf]; omega
              · go_wp2_with fail
                go_round
                case rel => exact ⟨m + 1, by go_num, by omega, by rw [HCT.out, HU.out, if_neg hvu]; rfl⟩
                case measure => simp [intOf]; omega
            · have hmoi : ¬ (m : Int) < (of.length : Int) := by omega
              have hmo2 : (of.length : Int) ≤ (m : Int) := by omega
              have HU : Hid (P[m] = 0) := Lib.hid (by rw [HPM.out, List.getD_eq_getElem?_getD, List.getElem?_eq_none (by omega)]; rfl)
              by_cases hvu : (0 : Int) ≤ 0
              · go_wp2_with fail
                go_round
                case rel => exact ⟨m + 1, by go_num, by omega, by rw [HCT.out, HU.out, if_pos hvu]; go_num⟩
                case measure => simp [intOf]; omega
              · exact absurd (Int.le_refl 0) hvu
          · obtain rfl : m = n := by omega
            have hmi : ¬ ((m : Int) < (m : Int)) := by omega
            have HCN : Hid (cntN (P.take m) 0 = cntN P 0) := Lib.hid (by rw [← HPL.out, List.take_length])
            obtain ⟨cn, hcn⟩ : ∃ cn, cntN (P.take m) 0 = cn := ⟨_, rfl⟩
            rw [hcn] at HCN hcl3
            rw [hcn]
            clear hcn
            by_cases hqc : q ≤ cn
            · have hqi : (q : Int) ≤ (cn : Int) := by omega
              by_cases hup : found = false ∨ best < 0
              · have HR : Hid (refFold P (k + 1) = (0, true)) := Lib.hid (by rw [HFS.out]; unfold refStep; rw [HPL.out, HQ.out, HV.out, ← HCN.out, HBE.out, HFO.out, if_pos ⟨hqc, hup⟩])
                cases found with
                | false =>
                  clear hup
                  go_wp2_with (first
                    | (go_at_call 21; refine (refquorum_at A m c q _ (by omega) HQ.out).mono ?_; rintro e w' ⟨rfl, rfl⟩)
                    | fail)
                  go_round
                  case rel => exact ⟨k + 1, by go_num, by omega, by rw [HR.out], by rw [HR.out]⟩
                  case measure => simp [intOf]; omega
                | true =>
                  have hbv : best < 0 := hup.resolve_left (by decide)
                  clear hup
                  go_wp2_with (first
                    | (go_at_call 21; refine (refquorum_at A m c q _ (by omega) HQ.out).mono ?_; rintro e w' ⟨rfl, rfl⟩)
                    | fail)
                  go_round
                  case rel => exact ⟨k + 1, by go_num, by omega, by rw [HR.out], by rw [HR.out]⟩
                  case measure => simp [intOf]; omega
              · have HR : Hid (refFold P (k + 1) = refFold P k) := Lib.hid (by rw [HFS.out]; unfold refStep; rw [if_neg]; rintro ⟨_, h⟩; rw [HV.out, HBE.out, HFO.out] at h; exact hup h)
                rw [not_or] at hup
                obtain ⟨hf1, hbv⟩ := hup
                have hf2 : found = true := by simpa using hf1
                clear hf1
                subst hf2
                go_wp2_with (first
                  | (go_at_call 21; refine (refquorum_at A m c q _ (by omega) HQ.out).mono ?_; rintro e w' ⟨rfl, rfl⟩)
                  | fail)
                go_round
                case rel => exact ⟨k + 1, by go_num, by omega, by rw [HR.out, HBE.out], by rw [HR.out, HFO.out]⟩
                case measure => simp [intOf]; omega
            · have hqi : ¬ (q : Int) ≤ (cn : Int) := by omega
              have HR : Hid (refFold P (k + 1) = refFold P k) := Lib.hid (by rw [HFS.out]; unfold refStep; rw [if_neg]; rintro ⟨h, _⟩; rw [HPL.out, HQ.out, HV.out, ← HCN.out] at h; exact hqc h)
              go_wp2_with (first
                | (go_at_call 21; refine (refquorum_at A m c q _ (by omega) HQ.out).mono ?_; rintro e w' ⟨rfl, rfl⟩)
                | fail)
              go_round
              case rel => exact ⟨k + 1, by go_num, by omega, by rw [HR.out, HBE.out], by rw [HR.out, HFO.out]⟩
              case measure => simp [intOf]; omega
    · obtain rfl : k = n := by omega
      have hki : ¬ ((k : Int) < (k : Int)) := by omega
      have HR : Hid ((refFold P k).1 = nthV k of) := Lib.hid (by
        unfold nthV
        by_cases h0 : k = 0
        · subst h0
          rfl
        · rw [if_neg h0, HP.out]
          have := refFold_all P (by rw [HPL.out]; omega)
          rwa [HPL.out] at this)
      go_wp2_with fail
      go_ret
      exact ⟨by rw [← HR.out]; rfl, rfl⟩
end Go.Proofs.Ytopcgnilajmnhaa
