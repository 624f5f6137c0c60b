/-
  ProgressSure: the walk.
-/
import Derived.Test.YtlcnpfiiijehmaaRView
import Derived.Test.YtlcnpfiiijehmaaKnow13
set_option linter.unusedVariables false
set_option linter.unusedSimpArgs false
namespace Go.Proofs.Ytlcnpfiiijehmaa
open Go.RowKit

/-- How many of the first k reach r. -/
def reachN (of : List Int) (r : Int) (k : Nat) : Nat := cntN (of.take k) r
theorem reachN_succ {of : List Int} {r : Int} {k : Nat} (hk : k < of.length) : reachN of r (k + 1) = reachN of r k + (if r ≤ of[k] then 1 else 0) := by
  unfold reachN
  rw [List.take_succ_eq_append_getElem hk, cnt_append]
  unfold cntN
  by_cases h : r ≤ of[k] <;> simp [h]
theorem cnt_zeros (r : Int) (h : 1 ≤ r) (j : Nat) : cntN (List.replicate j 0) r = 0 := by
  unfold cntN
  rw [List.filter_eq_nil_iff.2]
  · rfl
  · intro a ha
    rw [List.eq_of_mem_replicate ha]
    simp
    omega
/-- What is newly committed is reached by a quorum. -/
theorem reach_quorum {v : Vw} {ns : Nat} {of : List Int} {commit term r : Int} (h : CommitIs v (nthV ns of) commit term r) (hr : r ≠ commit) :
    rightV v = true ∧ commit < r ∧ v.base < r ∧ r ≤ lastV v ∧ atV v r = term ∧ quorN ns ≤ reachN of r (min ns of.length) := by
  rcases h with ⟨_, h⟩ | ⟨h1, ⟨n, a1, a2, a3, a4, a5, _, rfl⟩ | ⟨_, h⟩⟩
  · exact absurd h hr
  · have hb := (rightV_iff.1 h1).1
    refine ⟨h1, a1, a2, a4, a5, ?_⟩
    have h0 : ns ≠ 0 := by
      intro h0
      unfold nthV at a3
      rw [if_pos h0] at a3
      omega
    unfold nthV at a3
    rw [if_neg h0] at a3
    have h2 := (nth_iff (P := pad ns of) (by rw [pad_len]; omega) r).1 a3
    rw [pad_len] at h2
    have h3 : cntN (pad ns of) r = reachN of r (min ns of.length) := by
      unfold pad reachN
      rw [cnt_append, cnt_zeros r (by omega), Nat.add_zero]
      congr 1
      rcases Nat.le_total ns of.length with h4 | h4
      · rw [Nat.min_eq_left h4]
      · rw [Nat.min_eq_right h4, List.take_of_length_le h4, List.take_length]
    omega
  · exact absurd h hr
theorem reachN_le (of : List Int) (r : Int) (k : Nat) : reachN of r k ≤ k := by
  unfold reachN
  exact Nat.le_trans (cnt_le _ _) (by rw [List.length_take]; omega)
set_option maxRecDepth 16384 in
set_option maxHeartbeats 8000000 in
theorem sure_any (v : Vw) (A : Option Addr) (n c : Nat) (S M : Option Addr) (ns cs mo cm : Nat) (of : List Int) (commit term : Int) (w : World) (hn : v.l.length = n) (hn2 : n * 48 ≤ 140737488351232) (h : SeenE w A v.l) (hs : SmallE v.l)
    (hns : ns * 8 ≤ 140737488351232) (hmo : of.length = mo) (hof : mo ≤ cm) (hol : mo * 8 ≤ 140737488351232) (hM : Sees w M (of.map i64v)) :
    Calls Try.prog 4 #[v.val (.slice A n c), .slice S ns cs, .slice M mo cm, .int .i64 commit, .int .i64 term] w (RetBool w true) := by
  obtain ⟨W, hW⟩ : ∃ W, w.alloc (.cells #[.int .i64 v.base, .int .i64 v.term, .slice A n c] 24) = W := ⟨_, rfl⟩
  have hb : Below w.heap.size w W := by rw [← hW]; exact (Below.refl _ _).alloc (Nat.le_refl _) _
  have k0 : W.cell? ⟨w.heap.size, 0, none⟩ = some (.int .i64 v.base) := by rw [← hW]; simp
  have k1 : W.cell? ⟨w.heap.size, 1, none⟩ = some (.int .i64 v.term) := by rw [← hW]; simp
  have k2 : W.cell? ⟨w.heap.size, 2, none⟩ = some (.slice A n c) := by rw [← hW]; simp
  have HW := Lib.hid hW
  have HB := Lib.hid hb
  obtain ⟨gb, hgb⟩ : ∃ gb, w.heap.size = gb := ⟨_, rfl⟩
  rw [hgb] at k0 k1 k2
  have HGB := Lib.hid hgb
  have HN := Lib.hid hn
  have HMO := Lib.hid hmo
  have HM := Lib.hid hM
  have HVW := Lib.hid (view_any v A n c W hn hn2 (h.below hb) hs)
  have HCM := Lib.hid (fun W' (hb' : Below w.heap.size w W') (A' : Option Addr) (c' : Nat) (hse : SeenE W' A' v.l) => commit_any v A' n c' S M ns cs cm of commit term W' hn (by omega) hse hs (by omega) (by rw [hmo]; exact hof) (by rw [hmo]; omega) (hM.below hb'))
  have HTO := Lib.hid (fun W' (hb' : Below w.heap.size w W') i => rtermof_any v i A n c W' hn (by omega) (h.below hb') hs)
  have HK : Hid (∀ W', Below W.heap.size W W' → W'.cell? ⟨gb, 0, none⟩ = some (.int .i64 v.base) ∧ W'.cell? ⟨gb, 1, none⟩ = some (.int .i64 v.term) ∧ W'.cell? ⟨gb, 2, none⟩ = some (.slice A n c)) := Lib.hid (fun W' hb' => ⟨(hb'.cell (World.block_lt_of_cell? _ _ k0)).trans k0, (hb'.cell (World.block_lt_of_cell? _ _ k1)).trans k1, (hb'.cell (World.block_lt_of_cell? _ _ k2)).trans k2⟩)
  rw [hmo] at HCM
  unfold Vw.val at HVW HCM HTO ⊢
  clear hW hb h hn hs hgb hmo hM
  go_enter Try.func4, Try.ntmps4
  go_upto_region 1 with fail
  rw [HW.out]
  try rw [HGB.out]
  go_upto_region 2 with (first
    | (go_at_call 8; refine HVW.out.mono ?_; rintro e w2 ⟨A2, n2, c2, rfl, hn2', ho2, hb2⟩; have hnn := hn2'.trans HN.out; clear hn2'; obtain rfl := hnn; unfold Vw.val; have HB2 := Lib.hid hb2; have HS2 := Lib.hid ho2.see.1; clear ho2 hb2)
    | (go_at_call 9; refine (HCM.out _ (below_step HB.out HB.out.size HB2.out) A2 c2 HS2.out).mono ?_; rintro e w3 ⟨r, rfl, hr, hb3⟩; have HR := Lib.hid hr; have HB3 := Lib.hid (below_step HB2.out HB2.out.size hb3); clear hr hb3)
    | fail)
  have HBF := Lib.hid (below_step HB.out HB.out.size HB3.out)
  by_cases g0 : r = commit
  · subst g0
    go_wp2_with (first
      | (go_at_call 12; refine (knows_any _).mono ?_; rintro e w9 ⟨rfl, hb9⟩; have HB9 := Lib.hid (below_step HBF.out HBF.out.size hb9); clear hb9)
      | fail)
    go_ret
    exact ⟨rfl, HB9.out⟩
  · have g0' : (r == commit) = false := by simpa using g0
    obtain ⟨r1, r2, r3, r4, r5, r6⟩ := reach_quorum HR.out g0
    rw [HMO.out] at r6
    have HRT := Lib.hid r1
    have H3 := Lib.hid r3
    have H4 := Lib.hid r4
    have H5 := Lib.hid r5
    have H6 := Lib.hid r6
    have r2' : ¬ r < commit := by omega
    have HST : Hid (∃ k : Nat, Value.int .i64 0 = .int .i64 (reachN of r k : Int) ∧ Value.int .i64 0 = .int .i64 (k : Int) ∧ k ≤ min ns mo ∧ Below W.heap.size W w3) := Lib.hid ⟨0, rfl, rfl, Nat.zero_le _, HB3.out⟩
    clear r1 r3 r4 r5 r6 g0 k0 k1 k2
    go_wp2_with fail
    go_loopw [12, 13] (fun s12 s13 wr => ∃ k : Nat, s12 = .int .i64 (reachN of r k : Int) ∧ s13 = .int .i64 (k : Int) ∧ k ≤ min ns mo ∧ Below W.heap.size W wr) (fun _ s13 _ => min ns mo - (intOf s13).toNat)
    case atStart => exact HST.out
    case round =>
      obtain ⟨k, rfl, rfl, hk, hb⟩ := hrel
      have HBR := Lib.hid hb
      clear HST hb
      by_cases hlt : k < min ns mo
      · have hk1 : (k : Int) < (ns : Int) := by omega
        have hk2 : (k : Int) < (mo : Int) := by omega
        have hkl : k < of.length := by rw [HMO.out]; omega
        obtain ⟨x, hx⟩ : ∃ x, of[k] = x := ⟨_, rfl⟩
        have hsu := reachN_succ (r := r) hkl
        have hle := reachN_le of r k
        rw [hx] at hsu
        obtain ⟨ad, rfl, hc0⟩ := (HM.out.below (below_step HB.out HB.out.size HBR.out)) k (.int .i64 x) (by rw [List.getElem?_map, List.getElem?_eq_getElem hkl, hx]; rfl)
        obtain ⟨q, hq⟩ : ∃ q, reachN of r k = q := ⟨_, rfl⟩
        rw [hq] at hsu hle
        try rw [hq]
        have HSU := Lib.hid hsu
        clear hsu hx hkl hq
        by_cases g : r ≤ x
        · have HN1 : Hid (reachN of r (k + 1) = q + 1) := Lib.hid (by rw [HSU.out, if_pos g])
          go_wp2_with fail
          go_roundw
          case rel => exact ⟨k + 1, by rw [HN1.out]; go_num, by go_num, by omega, HBR.out⟩
          case measure => simp [intOf] <;> omega
        · have HN1 : Hid (reachN of r (k + 1) = q) := Lib.hid (by rw [HSU.out, if_neg g, Nat.add_zero])
          go_wp2_with fail
          go_roundw
          case rel => exact ⟨k + 1, by rw [HN1.out], by go_num, by omega, HBR.out⟩
          case measure => simp [intOf] <;> omega
      · obtain ⟨q, hq⟩ : ∃ q, reachN of r k = q := ⟨_, rfl⟩
        obtain ⟨qu, hqu⟩ : ∃ qu, quorN ns = qu := ⟨_, rfl⟩
        have hqq : ¬ (q : Int) < (qu : Int) := by
          have h9 := H6.out
          rw [show min ns mo = k from by omega, hq, hqu] at h9
          omega
        try rw [hq]
        have HQU := Lib.hid (fun W' => quorum_at S ns cs qu W' (by omega) hqu)
        have HWF := Lib.hid (below_step HB.out HB.out.size HBR.out)
        have HT := Lib.hid (HTO.out wr HWF.out r)
        obtain ⟨c0, c1, c2⟩ := HK.out wr HBR.out
        have r3' : v.base < r := H3.out
        clear hq hqu
        by_cases g9 : k < ns
        · have hk1 : (k : Int) < (ns : Int) := by omega
          have hk2 : ¬ (k : Int) < (mo : Int) := by omega
          go_wp2_with (first
            | (go_at_call 13; refine (HQU.out _).mono ?_; rintro e w5 ⟨rfl, rfl⟩)
            | (go_at_call 14; refine HT.out.mono ?_; rintro e w6 ⟨ra, re, rfl, hb6, _, h6⟩; obtain ⟨rfl, rfl⟩ := (h6 HRT.out).2.2 (Int.le_of_lt H3.out) H4.out; rw [H5.out]; have HB6 := Lib.hid (below_step HBR.out HBR.out.size hb6); obtain ⟨d0, d1, d2⟩ := HK.out w6 HB6.out; clear hb6 h6)
            | (go_at_call 12; refine (knows_any _).mono ?_; rintro e w9 ⟨rfl, hb9⟩; have HB9 := Lib.hid (below_step HB6.out HB6.out.size hb9); clear hb9)
            | fail)
          go_ret
          exact ⟨rfl, below_step HB.out HB.out.size HB9.out⟩
        · have hk1 : ¬ (k : Int) < (ns : Int) := by omega
          go_wp2_with (first
            | (go_at_call 13; refine (HQU.out _).mono ?_; rintro e w5 ⟨rfl, rfl⟩)
            | (go_at_call 14; refine HT.out.mono ?_; rintro e w6 ⟨ra, re, rfl, hb6, _, h6⟩; obtain ⟨rfl, rfl⟩ := (h6 HRT.out).2.2 (Int.le_of_lt H3.out) H4.out; rw [H5.out]; have HB6 := Lib.hid (below_step HBR.out HBR.out.size hb6); obtain ⟨d0, d1, d2⟩ := HK.out w6 HB6.out; clear hb6 h6)
            | (go_at_call 12; refine (knows_any _).mono ?_; rintro e w9 ⟨rfl, hb9⟩; have HB9 := Lib.hid (below_step HB6.out HB6.out.size hb9); clear hb9)
            | fail)
          go_ret
          exact ⟨rfl, below_step HB.out HB.out.size HB9.out⟩
end Go.Proofs.Ytlcnpfiiijehmaa
