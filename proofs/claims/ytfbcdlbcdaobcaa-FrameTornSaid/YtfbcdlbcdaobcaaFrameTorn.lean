/-
  The law FrameTorn: the walk.
-/
import Derived.Test.YtfbcdlbcdaobcaaFrameRot
set_option linter.unusedVariables false
set_option linter.unusedSimpArgs false
namespace Go.Proofs.Ytfbcdlbcdaobcaa
open Go.RowKit

/-- The loop's numbers: how many frames end within the cut, and where the last of them ends. -/
def tornRel (ys : List (UInt8 × List UInt8)) (m U T : Nat) (n l i : Value) : Prop :=
  ∃ k q s : Nat, k ≤ m ∧ Hid (q = min k U) ∧ Hid (s = size (ys.take q)) ∧ q ≤ k ∧ s ≤ T ∧ n = .int .i64 (q : Int) ∧ l = .int .i64 (s : Int) ∧ i = .int .i64 (k : Int)

set_option maxHeartbeats 4000000 in
theorem frameTorn_any (xs : List (Int × List UInt8)) (A : Option Addr) (c : Nat) (cells : List Value) (cut : Int) (w : World) (hc : xs.length ≤ c) (hcm : c ≤ maxLen) (hl : xs.length ≤ 140737488355328) (hd : ∀ f ∈ xs, f.2.length ≤ 140737488355328) (hA : Sees w A cells) (rA : Recs frSeen 2 w xs cells) :
    Calls Try.prog 5 #[.slice A xs.length c, .int .i64 cut] w (RetBool w true) := by
  have H := Lib.hid hA
  have R := Lib.hid rA
  have HD := Lib.hid hd
  clear hA rA hd
  by_cases hg : ∀ f ∈ xs.take 50, good f
  case neg =>
    have HG := Lib.hid hg
    clear hg
    go_enter Try.func5, Try.ntmps5
    go_wp2_with (first
      | (go_at_call 17; go_loud (refine (row_bad xs A c cells _ hl HD.out H.out R.out HG.out).mono ?_); rintro e w1 ⟨rfl, hb1⟩)
      | (go_at_call 13; (refine (knows_yes _).mono ?_); rintro e w2 ⟨rfl, hb2⟩)
      | fail)
    go_ret
    exact ⟨rfl, below_step hb1 hb1.size hb2⟩
  obtain ⟨ys, hys⟩ : ∃ ys, (xs.take 50).map ku = ys := ⟨_, rfl⟩
  obtain ⟨T, hT⟩ : ∃ T, size ys = T := ⟨_, rfl⟩
  obtain ⟨m, hm⟩ : ∃ m, ys.length = m := ⟨_, rfl⟩
  have HG := Lib.hid hg
  have HY := Lib.hid hys
  have HTT := Lib.hid hT
  have HM := Lib.hid hm
  have hm50 : m ≤ 50 := by rw [← hm, ← hys, List.length_map, List.length_take]; omega
  have hmx : m ≤ xs.length := by rw [← hm, ← hys, List.length_map, List.length_take]; omega
  have hmx2 : xs.length ≤ 50 → m = xs.length := fun h => by rw [← hm, ← hys, List.length_map, List.length_take]; omega
  have hgy : ∀ f ∈ ys, f.2.length ≤ 65536 := by
    intro f hf
    rw [← hys] at hf
    obtain ⟨f', hf', rfl⟩ := List.mem_map.1 hf
    exact (hg f' hf').2.2
  have hTm : T ≤ 3277250 := by
    have := size_most ys hgy
    rw [hT, hm] at this
    omega
  have HGY := Lib.hid hgy
  clear hg hys hT hm hgy
  have hencl := Lib.hid (show (enc ys).length = T by rw [enc_len, HTT.out])
  have hsc := Lib.hid (show scan (enc ys) = ys by have := scan_enc ys [] HGY.out; simpa [scan_none (show one [] = none from rfl)] using this)
  have hfk : ys.map fk = xs.take 50 := by rw [← HY.out]; exact fk_ku HG.out
  have HFK := Lib.hid hfk
  clear hfk
  -- the cut
  obtain ⟨C, hC, hCe⟩ : ∃ C : Nat, C < T + 1 ∧ (wrap64 (wrap64 (cut.tmod ((T : Int) + 1) + (T : Int)) + 1)).tmod ((T : Int) + 1) = (C : Int) := by
    have h1 : -(((T + 1 : Nat) : Int)) < cut.tmod ((T + 1 : Nat) : Int) ∧ cut.tmod ((T + 1 : Nat) : Int) < ((T + 1 : Nat) : Int) := ⟨tmod_gt cut (T + 1) (by omega), Int.tmod_lt_of_pos _ (by omega)⟩
    obtain ⟨q, hq⟩ : ∃ q, cut.tmod ((T : Int) + 1) = q := ⟨_, rfl⟩
    have h2 : cut.tmod ((T + 1 : Nat) : Int) = q := hq
    rw [h2] at h1
    rw [hq]
    have h3 : wrap64 (wrap64 (q + (T : Int)) + 1) = q + (T : Int) + 1 := by unfold wrap64; omega
    rw [h3]
    have h4 : 0 ≤ (q + (T : Int) + 1).tmod ((T : Int) + 1) := Int.tmod_nonneg _ (by omega)
    have h5 : (q + (T : Int) + 1).tmod ((T : Int) + 1) < (T : Int) + 1 := Int.tmod_lt_of_pos _ (by omega)
    obtain ⟨j, hj⟩ := Int.eq_ofNat_of_zero_le h4
    exact ⟨j, by omega, hj⟩
  have hCT : C ≤ T := by omega
  obtain ⟨U, hU⟩ : ∃ U, upto ys C = U := ⟨_, rfl⟩
  have hUm : U ≤ m := by rw [← hU, ← HM.out]; exact upto_le _ _
  obtain ⟨L, hL⟩ : ∃ L, size (ys.take U) = L := ⟨_, rfl⟩
  have hLC : L ≤ C := by rw [← hL, ← hU]; exact size_upto _ _
  have hcutl := Lib.hid (show ((enc ys).take C).length = C by rw [List.length_take, hencl.out]; omega)
  have hcuts := Lib.hid (show scan ((enc ys).take C) = ys.take U by rw [scan_cut ys C HGY.out (by rw [HTT.out]; exact hCT), hU])
  have hUl := Lib.hid (show (ys.take U).length = U by rw [List.length_take, HM.out]; omega)
  have HL := Lib.hid hL
  have HXU := Lib.hid (show (xs.take U).length = U by rw [List.length_take]; omega)
  have hxk : (ys.take U).map fk = xs.take U := by
    rw [← HY.out, ← List.map_take, List.take_take, Nat.min_eq_left (by omega)]
    exact fk_ku (fun g hg => HG.out g (by
      have : xs.take U = (xs.take 50).take U := by rw [List.take_take, Nat.min_eq_left (by omega)]
      rw [this] at hg
      exact List.mem_of_mem_take hg))
  have HXK := Lib.hid hxk
  have HEND : Hid (∀ q, q < m → (ends ys)[q]? = some (.int .i64 (size (ys.take (q + 1)) : Int))) := Lib.hid (by
    intro q hq
    simp [ends, HM.out, hq])
  have HUI : Hid (∀ q, q < m → (q < U ↔ size (ys.take (q + 1)) ≤ C)) := Lib.hid (by
    intro q hq
    rw [← hU]
    exact upto_iff ys C q (by rw [HM.out]; exact hq))
  have HLs : Hid (∀ q, q ≤ m → size (ys.take q) ≤ T) := Lib.hid (by
    intro q hq
    have := congrArg size (List.take_append_drop q ys)
    rw [size_append, HTT.out] at this
    omega)
  clear hxk hL hU
  simp only [maxLen] at hcm
  obtain ⟨bC, hbC⟩ : ∃ bC, decide (L = C) = bC := ⟨_, rfl⟩
  have HBC := Lib.hid hbC
  clear hbC
  by_cases hx50 : xs.length ≤ 50
  · have hmm := hmx2 hx50
    subst hmm
    have i50 : (xs.length : Int) ≤ 50 := by omega
    go_enter Try.func5, Try.ntmps5
    go_wp2_with (first
      | (go_at_call 17; go_loud (refine (row_good xs A c cells _ hl HD.out H.out R.out HG.out ys T xs.length HY.out HTT.out HM.out).mono ?_); rintro e w1 ⟨Ab, cb, Be, ce, rfl, hob, hoe, hb1⟩; have hse := (sees_own' hob).2.2.2; have hcb := (sees_own' hob).2.1; have ccm := (sees_own' hob).2.2.1)
      | (go_at_call 14; go_loud (refine (scan_known Ab (enc ys) T cb ys xs.length T true hsc.out HM.out HTT.out hencl.out (decide_eq_true rfl) _ hcb ccm (by omega) (by exact hse)).mono ?_); rintro e w2 ⟨A2, c2, cells2, rfl, hc2, hs2, hr2, hb2⟩; have hB2 := below_step hb1 hb1.size hb2)
      | (go_at_call 16; have hx := hb2; go_loud (refine (same_at xs xs.length rfl A2 A c2 c cells2 cells _ hl (by exact hs2) (by exact H.out.below hB2) (by exact (by have h5 := hr2; rw [HFK.out, List.take_of_length_le hx50] at h5; exact h5)) (by exact frSeen_below R.out hB2)).mono ?_); rintro e w' ⟨rfl, nq0, rfl⟩)
      | fail)
    simp only [maxLen] at ccm
    have i1 : (C : Int) ≤ (cb : Int) := by omega
    go_loop [11, 12, 13] (fun n l i => tornRel ys xs.length U T n l i) (fun _ _ i => xs.length - (intOf i).toNat)
    case atStart => exact ⟨0, 0, 0, Nat.zero_le _, Lib.hid (by simp), Lib.hid (by simp [size]), Nat.le_refl _, Nat.zero_le _, rfl, rfl, rfl⟩
    case round =>
      obtain ⟨k, q, sz, hk, HQ, HS, hqk, hsz, rfl, rfl, rfl⟩ := hrel
      by_cases hlt : k < xs.length
      · obtain ⟨_, gb, rfl, _, _⟩ := own_pos hoe (by omega)
        have hoe2 := own_keep hoe hb2
        obtain ⟨E, hE⟩ : ∃ E, size (ys.take (k + 1)) = E := ⟨_, rfl⟩
        have cE : w2.cell? ⟨gb, k, none⟩ = some (.int .i64 (E : Int)) := by
          obtain ⟨ad', e', hc'⟩ := (sees_own' hoe2).2.2.2 k _ (HEND.out k hlt)
          cases e'
          rw [add_base, hE] at hc'
          exact hc'
        have hET : E ≤ T := by rw [← hE]; exact HLs.out (k + 1) hlt
        have hiff := HUI.out k hlt
        rw [hE] at hiff
        have HEE := Lib.hid hE
        have k0 : (0 : Int) ≤ (k : Int) := by omega
        have k1 : (k : Int) < ((xs.length : Nat) : Int) := by omega
        clear hE
        by_cases hkU : k < U
        · have hEC : (E : Int) ≤ (C : Int) := by have := hiff.1 hkU; omega
          clear hiff
          go_wp2
          go_round
          case rel => exact ⟨k + 1, q + 1, E, by omega, Lib.hid (by rw [HQ.out]; omega), Lib.hid (by rw [show q + 1 = k + 1 from by rw [HQ.out]; omega, HEE.out]), by omega, hET, by go_num, rfl, by go_num⟩
          case measure => simp [intOf]; omega
        · have hEC : ¬ (E : Int) ≤ (C : Int) := fun h => hkU (hiff.2 (by omega))
          clear hiff
          go_wp2
          go_round
          case rel => exact ⟨k + 1, q, sz, by omega, Lib.hid (by rw [HQ.out]; omega), HS, by omega, hsz, rfl, rfl, by go_num⟩
          case measure => simp [intOf]; omega
      · obtain rfl : q = U := by have := HQ.out; omega
        obtain rfl : sz = L := by rw [HS.out, HL.out]
        have hbq : ((C : Int) == (sz : Int)) = bC := by
          rw [← HBC.out]
          exact Bool.eq_iff_iff.2 (by simp; omega)
        have i2 : (q : Int) ≤ (c : Int) := by omega
        go_wp2_with (first
          | (go_at_call 14; go_loud (refine (scan_known Ab ((enc ys).take C) C cb (ys.take q) q sz bC hcuts.out hUl.out HL.out hcutl.out HBC.out _ (by omega) (by simp only [maxLen]; omega) (by omega) (by exact (by have h6 := (hse.below hb2).take C; rw [← u8s_take] at h6; exact h6))).mono ?_); rintro e w4 ⟨A4, c4, cells4, rfl, hc4, hs4, hr4, hb4⟩; have hB4 := below_step (below_draws hB2 nq0) (below_draws hB2 nq0).size hb4)
          | (go_at_call 16; have hx := hb4; go_loud (refine (same_at (xs.take q) q HXU.out A4 A c4 c cells4 (cells.take (q * 2)) _ (by omega) (by exact hs4) (by exact (H.out.below hB4).take _) (by exact (by have h5 := hr4; rw [HXK.out] at h5; exact h5)) (by exact frSeen_below (R.out.take q) hB4)).mono ?_); rintro e w' ⟨rfl, nq1, rfl⟩)
          | (go_at_call 13; go_loud (refine (knows_yes _).mono ?_); rintro e w5 ⟨rfl, hb5⟩)
          | fail)
        go_ret
        exact ⟨rfl, below_step (below_draws hB4 nq1) hB4.size hb5⟩
  · have i50 : ¬ (xs.length : Int) ≤ 50 := by omega
    go_enter Try.func5, Try.ntmps5
    go_wp2_with (first
      | (go_at_call 17; go_loud (refine (row_good xs A c cells _ hl HD.out H.out R.out HG.out ys T m HY.out HTT.out HM.out).mono ?_); rintro e w1 ⟨Ab, cb, Be, ce, rfl, hob, hoe, hb1⟩; have hse := (sees_own' hob).2.2.2; have hcb := (sees_own' hob).2.1; have ccm := (sees_own' hob).2.2.1)
      | (go_at_call 14; go_loud (refine (scan_known Ab (enc ys) T cb ys m T true hsc.out HM.out HTT.out hencl.out (decide_eq_true rfl) _ hcb ccm (by omega) (by exact hse)).mono ?_); rintro e w2 ⟨A2, c2, cells2, rfl, hc2, hs2, hr2, hb2⟩; have hB2 := below_step hb1 hb1.size hb2)
      | fail)
    simp only [maxLen] at ccm
    have i1 : (C : Int) ≤ (cb : Int) := by omega
    go_loop [11, 12, 13] (fun n l i => tornRel ys m U T n l i) (fun _ _ i => m - (intOf i).toNat)
    case atStart => exact ⟨0, 0, 0, Nat.zero_le _, Lib.hid (by simp), Lib.hid (by simp [size]), Nat.le_refl _, Nat.zero_le _, rfl, rfl, rfl⟩
    case round =>
      obtain ⟨k, q, sz, hk, HQ, HS, hqk, hsz, rfl, rfl, rfl⟩ := hrel
      by_cases hlt : k < m
      · obtain ⟨_, gb, rfl, _, _⟩ := own_pos hoe (by omega)
        have hoe2 := own_keep hoe hb2
        obtain ⟨E, hE⟩ : ∃ E, size (ys.take (k + 1)) = E := ⟨_, rfl⟩
        have cE : w2.cell? ⟨gb, k, none⟩ = some (.int .i64 (E : Int)) := by
          obtain ⟨ad', e', hc'⟩ := (sees_own' hoe2).2.2.2 k _ (HEND.out k hlt)
          cases e'
          rw [add_base, hE] at hc'
          exact hc'
        have hET : E ≤ T := by rw [← hE]; exact HLs.out (k + 1) hlt
        have hiff := HUI.out k hlt
        rw [hE] at hiff
        have HEE := Lib.hid hE
        have k0 : (0 : Int) ≤ (k : Int) := by omega
        have k1 : (k : Int) < ((m : Nat) : Int) := by omega
        clear hE
        by_cases hkU : k < U
        · have hEC : (E : Int) ≤ (C : Int) := by have := hiff.1 hkU; omega
          clear hiff
          go_wp2
          go_round
          case rel => exact ⟨k + 1, q + 1, E, by omega, Lib.hid (by rw [HQ.out]; omega), Lib.hid (by rw [show q + 1 = k + 1 from by rw [HQ.out]; omega, HEE.out]), by omega, hET, by go_num, rfl, by go_num⟩
          case measure => simp [intOf]; omega
        · have hEC : ¬ (E : Int) ≤ (C : Int) := fun h => hkU (hiff.2 (by omega))
          clear hiff
          go_wp2
          go_round
          case rel => exact ⟨k + 1, q, sz, by omega, Lib.hid (by rw [HQ.out]; omega), HS, by omega, hsz, rfl, rfl, by go_num⟩
          case measure => simp [intOf]; omega
      · obtain rfl : q = U := by have := HQ.out; omega
        obtain rfl : sz = L := by rw [HS.out, HL.out]
        have hbq : ((C : Int) == (sz : Int)) = bC := by
          rw [← HBC.out]
          exact Bool.eq_iff_iff.2 (by simp; omega)
        have i2 : (q : Int) ≤ (c : Int) := by omega
        go_wp2_with (first
          | (go_at_call 14; go_loud (refine (scan_known Ab ((enc ys).take C) C cb (ys.take q) q sz bC hcuts.out hUl.out HL.out hcutl.out HBC.out _ (by omega) (by simp only [maxLen]; omega) (by omega) (by exact (by have h6 := (hse.below hb2).take C; rw [← u8s_take] at h6; exact h6))).mono ?_); rintro e w4 ⟨A4, c4, cells4, rfl, hc4, hs4, hr4, hb4⟩; have hB4 := below_step hB2 hB2.size hb4)
          | (go_at_call 16; have hx := hb4; go_loud (refine (same_at (xs.take q) q HXU.out A4 A c4 c cells4 (cells.take (q * 2)) _ (by omega) (by exact hs4) (by exact (H.out.below hB4).take _) (by exact (by have h5 := hr4; rw [HXK.out] at h5; exact h5)) (by exact frSeen_below (R.out.take q) hB4)).mono ?_); rintro e w' ⟨rfl, nq1, rfl⟩)
          | (go_at_call 13; go_loud (refine (knows_yes _).mono ?_); rintro e w5 ⟨rfl, hb5⟩)
          | fail)
        go_ret
        exact ⟨rfl, below_step (below_draws hB4 nq1) hB4.size hb5⟩
end Go.Proofs.Ytfbcdlbcdaobcaa
