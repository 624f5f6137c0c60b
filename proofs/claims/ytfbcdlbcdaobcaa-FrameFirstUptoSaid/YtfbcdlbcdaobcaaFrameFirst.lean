/-
  The law FrameFirst: the walk.
-/
import Derived.Test.YtfbcdlbcdaobcaaFrameRot
set_option linter.unusedVariables false
set_option linter.unusedSimpArgs false
namespace Go.Proofs.Ytfbcdlbcdaobcaa
open Go.RowKit

set_option maxHeartbeats 4000000 in
theorem frameFirst_any (xs : List (Int × List UInt8)) (A : Option Addr) (c : Nat) (cells : List Value) (M : Option Addr) (more : List UInt8) (cm : Nat) (w : World) (hc : xs.length ≤ c) (hcm : c ≤ maxLen) (hl : xs.length ≤ 140737488355328) (hd : ∀ f ∈ xs, f.2.length ≤ 140737488355328) (hA : Sees w A cells) (rA : Recs frSeen 2 w xs cells)
    (hcc : more.length ≤ cm) (hcmm : cm ≤ maxLen) (hml : more.length ≤ 1048576) (hM : Sees w M (u8s more)) :
    Calls Try.prog 7 #[.slice A xs.length c, .slice M more.length cm] w (RetBool w true) := by
  have HMo := Lib.hid hM
  clear hM
  have H := Lib.hid hA
  have R := Lib.hid rA
  have HD := Lib.hid hd
  clear hA rA hd
  by_cases hg : ∀ f ∈ xs.take 50, good f
  case neg =>
    have HG := Lib.hid hg
    clear hg
    go_enter Try.func7, Try.ntmps7
    go_wp2_with (first
      | (go_at_call 17; go_loud (refine (row_bad xs A c cells _ hl HD.out H.out R.out HG.out).mono ?_); rintro e w1 ⟨rfl, hb1⟩)
      | (go_at_call 13; (refine (knows_yes _).mono ?_); rintro e w2 ⟨rfl, hb2⟩)
      | fail)
    go_ret
    exact ⟨rfl, below_step hb1 hb1.size hb2⟩
  obtain ⟨ys, hys⟩ : ∃ ys, (xs.take 50).map ku = ys := ⟨_, rfl⟩
  obtain ⟨T, hT⟩ : ∃ T, size ys = T := ⟨_, rfl⟩
  obtain ⟨m, hm⟩ : ∃ m, ys.length = m := ⟨_, rfl⟩
  have HG := Lib.hid hg
  have HY := Lib.hid hys
  have HTT := Lib.hid hT
  have HM := Lib.hid hm
  have hm50 : m ≤ 50 := by rw [← hm, ← hys, List.length_map, List.length_take]; omega
  have hmx : m ≤ xs.length := by rw [← hm, ← hys, List.length_map, List.length_take]; omega
  have hmx2 : xs.length ≤ 50 → m = xs.length := fun h => by rw [← hm, ← hys, List.length_map, List.length_take]; omega
  have hgy : ∀ f ∈ ys, f.2.length ≤ 65536 := by
    intro f hf
    rw [← hys] at hf
    obtain ⟨f', hf', rfl⟩ := List.mem_map.1 hf
    exact (hg f' hf').2.2
  have hTm : T ≤ 3277250 := by
    have := size_most ys hgy
    rw [hT, hm] at this
    omega
  have HGY := Lib.hid hgy
  clear hg hys hT hm hgy
  by_cases hx50 : xs.length ≤ 50
  case neg =>
    have i50 : (50 : Int) < (xs.length : Int) := by omega
    go_enter Try.func7, Try.ntmps7
    go_wp2_with (first
      | (go_at_call 17; go_loud (refine (row_good xs A c cells _ hl HD.out H.out R.out HG.out ys T m HY.out HTT.out HM.out).mono ?_); rintro e w1 ⟨Ab, cb, Be, ce, rfl, hob, hoe, hb1⟩)
      | (go_at_call 13; (refine (knows_yes _).mono ?_); rintro e w2 ⟨rfl, hb2⟩)
      | fail)
    go_ret
    exact ⟨rfl, below_step hb1 hb1.size hb2⟩
  have hmm := hmx2 hx50
  subst hmm
  have i50 : ¬ (50 : Int) < (xs.length : Int) := by omega
  have hencl : (enc ys).length = T := by rw [enc_len, HTT.out]
  obtain ⟨zs, hzs⟩ : ∃ zs, scan more = zs := ⟨_, rfl⟩
  obtain ⟨Z, hZ⟩ : ∃ Z, zs.length = Z := ⟨_, rfl⟩
  obtain ⟨G, hG⟩ : ∃ G, size zs = G := ⟨_, rfl⟩
  obtain ⟨bA, hbA⟩ : ∃ bA, decide (G = more.length) = bA := ⟨_, rfl⟩
  have hsc := Lib.hid (show scan (enc ys ++ more) = ys ++ zs by rw [scan_enc ys more HGY.out, hzs])
  have hfk : ys.map fk = xs := by rw [← HY.out, List.take_of_length_le hx50]; exact fk_ku (fun f hf => HG.out f (by rw [List.take_of_length_le hx50]; exact hf))
  have HFK := Lib.hid (show ((ys ++ zs).map fk).take xs.length = xs by rw [List.map_append, hfk, List.take_left' rfl])
  have HLN := Lib.hid (show (ys ++ zs).length = xs.length + Z by rw [List.length_append, HM.out, hZ])
  have HSZ := Lib.hid (show size (ys ++ zs) = T + G by rw [size_append, HTT.out, hG])
  have HBL := Lib.hid (show (enc ys ++ more).length = T + more.length by rw [List.length_append, hencl])
  have HBA := Lib.hid (show decide (T + G = T + more.length) = bA by rw [← hbA]; exact Bool.eq_iff_iff.2 (by simp))
  have HEL := Lib.hid (show (u8s (enc ys)).length = T * 1 by rw [u8s_length, hencl, Nat.mul_one])
  have HML := Lib.hid (show (u8s more).length = more.length * 1 by rw [u8s_length, Nat.mul_one])
  have HZL := Lib.hid hZ
  have HZS := Lib.hid hzs
  have HGG := Lib.hid hG
  have HBB := Lib.hid hbA
  have hZm : Z ≤ 1048576 ∧ G ≤ 1048576 := by
    have h1 : (scan more).length * 9 ≤ size (scan more) := size_ge _
    have h2 := scan_le _ more (Nat.le_refl _)
    rw [hzs, hZ, hG] at h1
    rw [hzs, hG] at h2
    omega
  obtain ⟨hZb, hGb⟩ := hZm
  have hget : ∀ k (hk : k < Z), ((ys ++ zs).map fk)[xs.length + k]'(by rw [List.length_map, HLN.out]; omega) = (zs.map fk)[k]'(by rw [List.length_map, HZL.out]; omega) := by
    intro k hk
    have hy : ys.length = xs.length := HM.out
    simp only [List.getElem_map]
    rw [List.getElem_append_right (by omega)]
    congr 2
    omega
  have HGET := Lib.hid hget
  clear hzs hZ hG hbA hfk hget
  have i51 : (xs.length : Int) ≤ 50 := by omega
  go_enter Try.func7, Try.ntmps7
  go_wp2_with (first
    | (go_at_call 17; go_loud (refine (row_good xs A c cells _ hl HD.out H.out R.out HG.out ys T xs.length HY.out HTT.out HM.out).mono ?_); rintro e w1 ⟨Ab, cb, Be, ce, rfl, hob, hoe, hb1⟩; have hz1 := hb1.size; have hse := (sees_own' hob).2.2.2; have hn1 := (Below.refl w1.heap.size w1).alloc (Nat.le_refl _) (.cells #[] 5))
    | (at_builtin; go_loud (refine wpList_append_sees rfl (.tmp 30) (.tmp 31) 22 rfl w1.heap.size 5 (.int .u8 0) 1 1 Try.underlying22 infoU8 rfl (by decide) (.slice (some ⟨w1.heap.size, 0, none⟩) 0 0) 0 [] rfl (own_made0 w1 5 1) Ab T cb (u8s (enc ys)) rfl HEL.out (hse.below hn1) (u8s_one _) (by simp only [maxLen]; omega) (by omega) (by simp) ?_); intro A3 c3 w3 hown3 hg3 hat3; have hb3 := below_grown_own hn1 (by simp) (own_made0 w1 5 1) (Nat.le_refl _) hg3; have hB3 := below_step hb1 hz1 hb3; have hz3 := hb3.size; simp only [Nat.zero_add, List.nil_append] at hown3)
    | (at_builtin; go_loud (refine wpList_append_sees rfl (.tmp 32) (.tmp 33) 22 rfl w1.heap.size 5 (.int .u8 0) 1 1 Try.underlying22 infoU8 rfl (by decide) (.slice A3 T c3) T (u8s (enc ys)) rfl hown3 M more.length cm (u8s more) rfl HML.out (HMo.out.below hB3) (u8s_one _) (by simp only [maxLen]; omega) (by omega) hz3 ?_); intro A4 c4 w4 hown4 hg4 hat4; have hb4 := below_grown_own hb3 hz3 hown3 (Nat.le_refl _) hg4; have hB4 := below_step hb1 hz1 hb4; have hs4 : Sees w4 A4 (u8s (enc ys ++ more)) := (by rw [u8s_append]; exact (sees_own' hown4).2.2.2); have hc4 := (sees_own' hown4).2.1; have hc4m := (sees_own' hown4).2.2.1)
    | (go_at_call 14; have hx := hb5; go_loud (refine (scan_known M more more.length cm zs Z G bA HZS.out HZL.out HGG.out rfl HBB.out _ hcc hcmm (by omega) (by exact HMo.out.below hB5)).mono ?_); rintro e w6 ⟨A6, c6, cells6, rfl, hc6, hs6, hr6, hb6⟩; have hB6 := below_step hB5 hB5.size hb6; have hs5' := hs5.below hb6; have hr5' := frSeen_below hr5 hb6)
    | (go_at_call 14; have hx := hb4; go_loud (refine (scan_known A4 (enc ys ++ more) (T + more.length) c4 (ys ++ zs) (xs.length + Z) (T + G) bA hsc.out HLN.out HSZ.out HBL.out HBA.out _ hc4 hc4m (by omega) (by exact hs4)).mono ?_); rintro e w5 ⟨A5, c5, cells5, rfl, hc5, hs5, hr5, hb5⟩; have hB5 := below_step hB4 hB4.size hb5; have j5 : (xs.length : Int) ≤ (c5 : Int) := (by omega))
    | (go_at_call 16; have hx := hb6; go_loud (refine (same_at xs xs.length rfl A5 A c5 c (cells5.take (xs.length * 2)) cells _ hl (by exact hs5'.take _) (by exact H.out.below hB6) (by exact (by have h5 := hr5'.take xs.length; rw [HFK.out] at h5; exact h5)) (by exact frSeen_below R.out hB6)).mono ?_); rintro e w' ⟨rfl, nq0, rfl⟩)
    | fail)
  go_loopw [14] (fun i wr => sameRel w6 Z i wr) (fun i _ => Z - (intOf i).toNat)
  case atStart => exact ⟨0, nq0, Nat.zero_le _, rfl, rfl⟩
  case round =>
    obtain ⟨k, nq, hk, rfl, rfl⟩ := hrel
    by_cases hlt : k < Z
    · obtain ⟨ad, A1, c1, rfl, a1, a2, a3⟩ := frSeen_at hs5' hr5' (xs.length + k) (by rw [List.length_map, HLN.out]; omega)
      obtain ⟨bd, B1, d1, rfl, b1, b2, b3⟩ := frSeen_at hs6 hr6 k (by rw [List.length_map, HZL.out]; omega)
      rw [HGET.out k hlt] at a1 a2 a3
      generalize ((zs.map fk)[k]'(by rw [List.length_map, HZL.out]; omega)).1 = kind at a1 b1
      generalize hdd : ((zs.map fk)[k]'(by rw [List.length_map, HZL.out]; omega)).2 = data at a2 a3 b2 b3
      clear hdd
      obtain ⟨P, hP⟩ : ∃ P, P = xs.length + k := ⟨_, rfl⟩
      rw [← hP] at a1 a2
      have q1 : ∀ nq, (convert 22 9 (.slice A1 data.length c1)).run Try.prog (w6.drewN nq) = .ok (.string (strB data)) (w6.drewN nq) := fun nq => run_string_sees _ _ _ _ Try.underlying22 Try.underlying5 Try.underlying9 _ _ _ data rfl a3
      have q2 : ∀ nq, (convert 22 9 (.slice B1 data.length d1)).run Try.prog (w6.drewN nq) = .ok (.string (strB data)) (w6.drewN nq) := fun nq => run_string_sees _ _ _ _ Try.underlying22 Try.underlying5 Try.underlying9 _ _ _ data rfl b3
      have a2' : w6.cell? ⟨(ad.add (P * 2)).block, (ad.add (P * 2)).off + 1, none⟩ = some (.slice A1 data.length c1) := by rw [← add_pos _ 1 (by omega), add_at]; exact a2
      have b2' : w6.cell? ⟨(bd.add (k * 2)).block, (bd.add (k * 2)).off + 1, none⟩ = some (.slice B1 data.length d1) := by rw [← add_pos _ 1 (by omega), add_at]; exact b2
      have eP : (xs.length : Int) + (k : Int) = (P : Int) := by omega
      have eW : IntKind.i64.wrap ((xs.length : Int) + (k : Int)) = (P : Int) := by rw [eP]; exact IntWalk.i64_in _ (by omega)
      have p0 : (0 : Int) ≤ (P : Int) := by omega
      have p1 : (P : Int) < (xs.length : Int) + (Z : Int) := by omega
      have p2 : P < xs.length + Z := by omega
      have h0i : (0 : Int) ≤ (k : Int) := by omega
      have hki : (k : Int) < (Z : Int) := by omega
      clear a3 b3 hP
      go_wp2
      go_quiet (fail)
      go_wp2
      go_roundw
      case rel => exact ⟨k + 1, _, by omega, by go_num, rfl⟩
      case measure => simp [intOf]; omega
    · obtain rfl : k = Z := by omega
      go_wp2_with (first
        | (go_at_call 13; go_loud (refine (knows_yes _).mono ?_); rintro e w9 ⟨rfl, hb9⟩)
        | fail)
      go_ret
      exact ⟨rfl, below_step (below_draws hB6 nq) hB6.size hb9⟩
end Go.Proofs.Ytfbcdlbcdaobcaa
