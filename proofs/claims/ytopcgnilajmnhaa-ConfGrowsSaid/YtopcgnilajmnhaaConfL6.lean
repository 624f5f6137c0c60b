/-
  Layer 11: the law ConfGrows: the walk.
-/
import Derived.Test.YtopcgnilajmnhaaConfL5
set_option linter.unusedVariables false
set_option linter.unusedSimpArgs false
namespace Go.Proofs.Ytopcgnilajmnhaa
open Go.RowKit

theorem confGrows_none (A B : Option Addr) (c : Nat) (of : List Int) (d : Nat) (i by' : Int) (w : World) (hd : of.length ≤ d) (hl2 : of.length * 8 ≤ 140737488351232) (hB : Sees w B (of.map i64v)) :
    Calls Try.prog 5 #[.slice A 0 c, .slice B of.length d, .int .i64 i, .int .i64 by'] w (RetBool w true) := by
  have HB := Lib.hid hB
  have HV : Hid (nthV 0 of = 0) := Lib.hid rfl
  clear hB
  go_enter Try.func5, Try.ntmps5
  go_wp2_with fail
  refine (nth_at A B 0 of c of.length d 0 w rfl hd (by omega) (by omega) HB.out HV.out).mono ?_
  rintro e w1 ⟨rfl, hb1⟩
  go_wp2_with (first
    | (go_at_call 12; refine (knows_any _).mono ?_; rintro e w6 ⟨rfl, hb6⟩)
    | fail)
  go_ret
  exact ⟨rfl, below_step hb1 hb1.size hb6⟩
set_option maxHeartbeats 2000000 in
theorem confGrows_some (A B : Option Addr) (n c : Nat) (of : List Int) (d : Nat) (i by' : Int) (w : World) (h0 : 0 < n) (hnc : n ≤ c) (hn : n * 8 ≤ 140737488351232) (hd : of.length ≤ d) (hl2 : of.length * 8 ≤ 140737488351232) (hB : Sees w B (of.map i64v)) (hi : IntOk i) :
    Calls Try.prog 5 #[.slice A n c, .slice B of.length d, .int .i64 i, .int .i64 by'] w (RetBool w true) := by
  have HB := Lib.hid hB
  obtain ⟨P, hP⟩ : ∃ P, pad n of = P := ⟨_, rfl⟩
  have HPL : Hid (P.length = n) := Lib.hid (by rw [← hP, pad_len])
  have HSP : Hid (splice (List.replicate n (Value.int .i64 0)) 0 ((of.take n).map i64v) = P.map i64v) := Lib.hid (by rw [← hP]; exact splice_pad n of)
  obtain ⟨i0, hi0, hz0, hz1, hz2⟩ := info_three infoInt
  have hN : n ≤ maxLen := by simp only [maxLen]; omega
  have hBN : i0.bytes * n ≤ 281474976710656 := by rw [hz2]; omega
  have HI := Lib.hid hi0
  have hinfo1 : (Try.prog.info? 3).map (·.size) = some 1 := by kernel_rfl
  have HRP : Hid ((madeCells (Value.int .i64 0).cells (n * 1)).toList = List.replicate n (.int .i64 0)) := Lib.hid (by rw [Nat.mul_one]; exact toList_madeCells_one _ _)
  have hn0 : ((n : Int) == 0) = false := by simp; omega
  obtain ⟨na, hna⟩ : ∃ na, nthN P = na := ⟨_, rfl⟩
  have HNA : Hid (nthV n P = na) := Lib.hid (by rw [nthV_nth HPL.out h0, hna])
  have HNN := Lib.hid hna
  clear hB hP hi0 hz2 hna
  go_enter Try.func5, Try.ntmps5
  go_wp2_with (first
    | (refine wpList_make_full _ rfl (.tmp 27) (.tmp 27) 22 rfl w.heap.size 3 i0 (.int .i64 0) 1 Try.underlying22 HI.out hz0 hz1 .i64 .i64 (n : Int) (n : Int) n rfl rfl rfl rfl hBN hN (Nat.le_refl _) ?_; intro w1 hown1' hg1; rw [HRP.out] at hown1'; have HO1 := Lib.hid hown1'; have hb1 : Below w.heap.size w w1 := (Below.refl _ _).grown hg1 (Nat.le_refl _) (fun k hk => by cases hk); have HB1 := Lib.hid hb1; clear hown1' hg1 hb1)
    | (refine wpList_copy_splice rfl (.tmp 29) (.tmp 30) 22 22 rfl 3 Try.underlying22 hinfo1 (some ⟨w.heap.size, 0, none⟩) B n n of.length d rfl rfl w.heap.size 0 (List.replicate n (.int .i64 0)) 3 (own_cells HO1.out) ((of.take n).map i64v) (by rw [List.length_map, List.length_take]; exact Nat.min_comm _ _) (fun hp => ⟨rfl, by
        obtain ⟨ad, e, _⟩ := ((HB.out.below HB1.out).take n) 0 _ (by rw [← List.map_take]; exact List.getElem?_eq_getElem hp)
        refine ⟨ad, e, fun j v hv => ?_⟩
        obtain ⟨ad', e', hc⟩ := ((HB.out.below HB1.out).take n) j v (by rw [← List.map_take]; exact hv)
        rw [e] at e'
        cases e'
        exact hc⟩) (by rw [List.length_map, List.length_take, List.length_replicate]; omega) (ints_one _) w.heap.size w HB1.out (Nat.le_refl _) ?_; intro w2 hc2 hb2; have hc2' := hc2.out; rw [HSP.out] at hc2'; have HO2 := Lib.hid (own_of_cells (base := w.heap.size) (Nat.le_refl _) hc2' (by rw [List.length_map]; exact HPL.out) hN); have HB2 := Lib.hid hb2; clear hc2 hc2' hb2)
    | (go_at_call 13; refine (nth_at A (some ⟨w.heap.size, 0, none⟩) n P c n n na w2 HPL.out (Nat.le_refl _) (by omega) (by omega) (sees_own' HO2.out).2.2.2 HNA.out).mono ?_; rintro e w3 ⟨rfl, hb3⟩; have HO3 := Lib.hid (own_keep HO2.out hb3); have HB3 := Lib.hid (below_step HB2.out HB2.out.size hb3); have hp0 : 0 < P.length := (by rw [HPL.out]; exact h0); obtain ⟨ad, e, hcell⟩ := ints_at (sees_own' HO3.out).2.2.2 0 hp0; cases e; rw [add_base] at hcell; obtain ⟨x0, hx0⟩ : ∃ x0, P[0] = x0 := ⟨_, rfl⟩; rw [hx0] at hcell; clear hb3 hx0)
    | fail)
  go_loop [11, 12, 13] (fun s11 s12 s13 => ∃ k : Nat, s13 = .int .i64 (k : Int) ∧ k ≤ n ∧ s11 = .int .i64 (minL P k x0) ∧ s12 = .int .i64 (maxL P k x0)) (fun _ _ s13 => n - (intOf s13).toNat)
  case atStart => exact ⟨0, rfl, Nat.zero_le _, rfl, rfl⟩
  case round =>
    obtain ⟨k, rfl, hk, rfl, rfl⟩ := hrel
    by_cases hlt : k < n
    · have hki : (k : Int) < (n : Int) := by omega
      have hkP : k < P.length := by rw [HPL.out]; exact hlt
      obtain ⟨ad, e, hck⟩ := ints_at (sees_own' HO3.out).2.2.2 k hkP
      cases e
      rw [add_base] at hck
      have HMI := Lib.hid (minL_succ hkP x0)
      have HMA := Lib.hid (maxL_succ hkP x0)
      obtain ⟨x, hx⟩ : ∃ x, P[k] = x := ⟨_, rfl⟩
      rw [hx] at hck HMI HMA
      clear hx
      go_wp2_with fail
      go_round
      case rel => exact ⟨k + 1, by go_num, by omega, by rw [HMI.out], by rw [HMA.out]⟩
      case measure => simp [intOf]; omega
    · obtain rfl : k = n := by omega
      have hki : ¬ ((k : Int) < (k : Int)) := by omega
      have HBW : Hid (minL P k x0 ≤ na ∧ na ≤ maxL P k x0) := Lib.hid (by
        have := nth_between P x0 x0 (by rw [HPL.out]; exact h0)
        rw [HPL.out, HNN.out] at this
        exact this)
      obtain ⟨lo, hlo⟩ : ∃ lo, minL P k x0 = lo := ⟨_, rfl⟩
      obtain ⟨hi', hhi⟩ : ∃ hi', maxL P k x0 = hi' := ⟨_, rfl⟩
      rw [hlo, hhi] at HBW
      rw [hlo, hhi]
      have hb1 : -(k : Int) < i.tmod k := by have := Int.lt_tmod_of_pos i (show (0 : Int) < (k : Int) by omega); omega
      have hb2 : i.tmod k < (k : Int) := Int.tmod_lt_of_pos i (by omega)
      clear hlo hhi
      go_upto_region 14 with fail
      obtain ⟨m, hmk, hm⟩ : ∃ m : Nat, m < k ∧ (i.tmod k + k) % k = (m : Int) := by
        have h1 := Int.emod_nonneg (i.tmod k + k) (show (k : Int) ≠ 0 by omega)
        have h2 := Int.emod_lt_of_pos (i.tmod k + k) (show (0 : Int) < (k : Int) by omega)
        exact ⟨((i.tmod k + k) % k).toNat, by omega, by omega⟩
      rw [hm]
      have hmi : (m : Int) < (k : Int) := by omega
      have hmP : m < P.length := by rw [HPL.out]; exact hmk
      have hm0 : (0 : Int) ≤ (m : Int) := by omega
      clear hm hb1 hb2 hcell
      go_upto_region 15 with (first
        | (at_builtin; refine wpList_append_sees rfl (.tmp 69) (.tmp 70) 22 rfl w3.heap.size 3 (.int .i64 0) 1 8 Try.underlying22 infoInt rfl (by decide) (.slice (some ⟨w3.heap.size, 0, none⟩) 0 0) 0 [] rfl (own_made0 w3 3 1) (some ⟨w.heap.size, 0, none⟩) k k (P.map i64v) rfl (by rw [List.length_map, HPL.out, Nat.mul_one]) ((sees_own' HO3.out).2.2.2.below ((Below.refl _ _).alloc (Nat.le_refl _) _)) (ints_one _) (by simp only [maxLen]; omega) (by omega) (by simp) ?_; intro A4 c4 w4 hown4 hg4 hat4; have HO4 := Lib.hid (own_copy hown4 hg4); have e0 : 0 + k = k := Nat.zero_add _; rw [e0]; clear hown4 hg4 hat4 e0)
        | fail)
      have HB4 := Lib.hid (below_step HB3.out HB3.out.size HO4.out.2)
      have HX4 := Lib.hid (own_keep HO3.out HO4.out.2)
      obtain ⟨hc4, g4, e4, hg4, hgl4⟩ := own_pos HO4.out.1 h0
      subst e4
      obtain ⟨ad, e, hcm⟩ := ints_at (sees_own' HO4.out.1).2.2.2 m hmP
      cases e
      rw [add_base] at hcm
      obtain ⟨xm, hxm⟩ : ∃ xm, P[m] = xm := ⟨_, rfl⟩
      rw [hxm] at hcm
      have HXM := Lib.hid hxm
      have hfz := own_fz' HO4.out.1 m
      clear hxm
      go_upto_region 16 with (fail)
      obtain ⟨v, hv⟩ : ∃ v, max xm by' = v := ⟨_, rfl⟩
      have HV : Hid (xm ≤ v) := Lib.hid (by omega)
      rw [hv]
      clear hv hcm hfz
      have hy := own_set HO4.out.1 m v
      obtain ⟨w5, hw5⟩ : ∃ w5, w4.setCell ⟨g4, m, none⟩ (.int .i64 v) = w5 := ⟨_, rfl⟩
      rw [hw5] at hy ⊢
      have hx5 : w5.ownsRow w.heap.size 3 1 (.slice (some ⟨w.heap.size, 0, none⟩) k k) k (P.map i64v) := by
        rw [← hw5]
        exact own_setFar HX4.out _ _ (by have := HB3.out.size; have := (own_block_ge HO3.out w.heap.size rfl).2; simp [Value.ownBlock]; omega)
      have hb5 : Below w.heap.size w w5 := by rw [← hw5]; exact HB4.out.setCell (by have := HB3.out.size; simp; omega) _
      have HY5 := Lib.hid hy
      have HX5 := Lib.hid hx5
      have HB5 := Lib.hid hb5
      clear hy hx5 hb5 hw5
      obtain ⟨X, hX, eX⟩ := slice_rest (P := Try.prog) 22 Try.underlying22 (by kernel_rfl) ⟨w.heap.size, 0, none⟩ k k m (k - m) (m : Int) rfl (by omega) rfl
      have eX3 : X = ⟨w.heap.size, m, none⟩ := by rw [eX, if_neg (by omega), add_base]
      subst eX3
      clear eX
      have HSD : Hid (Sees w5 (some ⟨w.heap.size, m, none⟩) ((P.drop m).map i64v)) := Lib.hid (by
        have := (sees_own' HX5.out).2.2.2.drop m
        rwa [add_base, ← List.map_drop] at this)
      have HDL : Hid ((P.drop m).length = k - m) := Lib.hid (by rw [List.length_drop, HPL.out])
      go_upto_region 17 with (first
        | (at_builtin; refine wpList_append_sees rfl (.tmp 81) (.tmp 84) 22 rfl w5.heap.size 3 (.int .i64 0) 1 8 Try.underlying22 infoInt rfl (by decide) (.slice (some ⟨w5.heap.size, 0, none⟩) 0 0) 0 [] rfl (own_made0 w5 3 1) (some ⟨w.heap.size, m, none⟩) (k - m) (k - m) ((P.drop m).map i64v) rfl (by rw [List.length_map, HDL.out, Nat.mul_one]) (HSD.out.below ((Below.refl _ _).alloc (Nat.le_refl _) _)) (ints_one _) (by simp only [maxLen]; omega) (by omega) (by simp) ?_; intro A6 c6 w6 hown6 hg6 hat6; have HO6 := Lib.hid (own_copy hown6 hg6); have e0 : 0 + (k - m) = k - m := Nat.zero_add _; rw [e0]; clear hown6 hg6 hat6 e0)
        | fail)
      have HB6 := Lib.hid (below_step HB5.out HB5.out.size HO6.out.2)
      have HX6 := Lib.hid (own_keep HX5.out HO6.out.2)
      have HY6 := Lib.hid (own_keep HY5.out HO6.out.2)
      have hmk2 : (m : Int) ≤ (k : Int) := by omega
      have HST : Hid (Sees w6 (some ⟨w.heap.size, 0, none⟩) ((P.take m).map i64v)) := Lib.hid (by
        have := (sees_own' HX6.out).2.2.2.take m
        rwa [← List.map_take] at this)
      have HTL : Hid ((P.take m).length = m) := Lib.hid (by rw [List.length_take, HPL.out]; omega)
      obtain ⟨km, hkm⟩ : ∃ km, k - m + m = km := ⟨_, rfl⟩
      have HKM : Hid (km = k) := Lib.hid (by omega)
      go_upto_region 18 with (first
        | (at_builtin; refine wpList_append_sees rfl (.tmp 86) (.tmp 89) 22 rfl w5.heap.size 3 (.int .i64 0) 1 8 Try.underlying22 infoInt rfl (by decide) (.slice A6 (k - m) c6) (k - m) ((P.drop m).map i64v) rfl HO6.out.1 (some ⟨w.heap.size, 0, none⟩) m k ((P.take m).map i64v) rfl (by rw [List.length_map, HTL.out, Nat.mul_one]) HST.out (ints_one _) (by simp only [maxLen]; omega) (by omega) HO6.out.2.size ?_; intro A7 c7 w7 hown7 hg7 hat7; rw [hkm] at hown7 ⊢; have HO7 := Lib.hid hown7; have HG7 := Lib.hid hg7; clear hown7 hg7 hat7)
        | fail)
      have hb67 : Below w5.heap.size w5 w7 := below_grown_own HO6.out.2 HO6.out.2.size HO6.out.1 (Nat.le_refl _) HG7.out
      have HB7 := Lib.hid (HB5.out.trans (hb67.mono HB5.out.size))
      have HY7 := Lib.hid (own_keep HY5.out hb67)
      have HZ7 : Hid (w7.ownsRow w5.heap.size 3 1 (.slice A7 km c7) km ((P.drop m ++ P.take m).map i64v)) := Lib.hid (by rw [List.map_append]; exact HO7.out)
      have HZL : Hid ((P.drop m ++ P.take m).length = km) := Lib.hid (by rw [List.length_append, HDL.out, HTL.out, hkm])
      obtain ⟨ny, hny⟩ : ∃ ny, nthN (P.set m v) = ny := ⟨_, rfl⟩
      have HNY : Hid (nthV k (P.set m v) = ny) := Lib.hid (by rw [nthV_nth (by rw [List.length_set]; exact HPL.out) h0, hny])
      have HYL : Hid ((P.set m v).length = k) := Lib.hid (by rw [List.length_set]; exact HPL.out)
      have hge : na ≤ ny := by
        rw [← hny, ← HNN.out]
        exact nth_set (by rw [HPL.out]; exact h0) hmP (by rw [HXM.out]; exact HV.out)
      have HNZ : Hid (nthV k (P.drop m ++ P.take m) = na) := Lib.hid (by
        rw [nthV_nth (by rw [HZL.out, HKM.out]) h0, nth_perm (by rw [HPL.out]; exact h0) (rot_perm P m)]
        exact HNN.out)
      have hlo : lo ≤ na := HBW.out.1
      have hhi : na ≤ hi' := HBW.out.2
      have d1 : decide (lo ≤ na) = true := decide_eq_true hlo
      have d2 : decide (na ≤ hi') = true := decide_eq_true hhi
      have d3 : decide (na ≤ ny) = true := decide_eq_true hge
      have d4 : (na == na) = true := by simp
      have hc7 := (sees_own' HZ7.out).2.1
      clear hb67 hny hX
      go_wp2_with fail
      refine (nth_at A (some ⟨g4, 0, none⟩) k (P.set m v) c k c4 ny w7 HYL.out hc4 (by omega) (by omega) (sees_own' HY7.out).2.2.2 HNY.out).mono ?_
      rintro e w8 ⟨rfl, hb8⟩
      have HB8 := Lib.hid (below_step HB7.out HB7.out.size hb8)
      have HZ8 := Lib.hid (own_keep HZ7.out hb8)
      clear hb8
      go_wp2_with fail
      refine (nth_at A A7 k (P.drop m ++ P.take m) c km c7 na w8 HZL.out hc7 (by omega) (by have := HKM.out; omega) (sees_own' HZ8.out).2.2.2 HNZ.out).mono ?_
      rintro e w9 ⟨rfl, hb9⟩
      have HB9 := Lib.hid (below_step HB8.out HB8.out.size hb9)
      clear hb9
      go_wp2_with (first
        | (go_at_call 12; refine (knows_any _).mono ?_; rintro e w10 ⟨rfl, hb10⟩)
        | fail)
      go_ret
      exact ⟨rfl, below_step HB9.out HB9.out.size hb10⟩
theorem confGrows_any (A B : Option Addr) (n c : Nat) (of : List Int) (d : Nat) (i by' : Int) (w : World) (hnc : n ≤ c) (hn : n * 8 ≤ 140737488351232) (hd : of.length ≤ d) (hl2 : of.length * 8 ≤ 140737488351232) (hB : Sees w B (of.map i64v)) (hi : IntOk i) :
    Calls Try.prog 5 #[.slice A n c, .slice B of.length d, .int .i64 i, .int .i64 by'] w (RetBool w true) := by
  rcases Nat.eq_zero_or_pos n with h0 | h0
  · subst h0
    exact confGrows_none A B c of d i by' w hd hl2 hB
  · exact confGrows_some A B n c of d i by' w h0 hnc hn hd hl2 hB hi
end Go.Proofs.Ytopcgnilajmnhaa
