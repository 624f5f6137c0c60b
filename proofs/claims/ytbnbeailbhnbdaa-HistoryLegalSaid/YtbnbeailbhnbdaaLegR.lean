/-
  The reference's Legal.
-/
import Derived.Test.YtbnbeailbhnbdaaTime
import Derived.Test.YtbnbeailbhnbdaaRefR
import Derived.Test.YtbnbeailbhnbdaaRefC3
set_option linter.unusedVariables false
set_option linter.unusedSimpArgs false
namespace Go.Proofs.Ytbnbeailbhnbdaa
open Go.RowKit

/-- Is the pair of places in order? -/
def lateAt (cs : List CV) (os : List Int) (i k : Nat) : Bool := !(atC cs (os.getD k 0)).ans || decide ((atC cs (os.getD i 0)).beg ≤ (atC cs (os.getD k 0)).fin)
theorem lateOK_true {cs : List CV} {os : List Int} {i : Nat} (h : ∀ k, i < k → k < os.length → lateAt cs os i k = true) : lateOK cs os i = true := by
  unfold lateOK
  rw [List.all_eq_true]
  intro o ho
  obtain ⟨j, hj, rfl⟩ := List.getElem_of_mem ho
  rw [List.length_drop] at hj
  rw [List.getElem_drop]
  have := h (i + 1 + j) (by omega) (by omega)
  unfold lateAt at this
  rwa [getD_of (show i + 1 + j < os.length by omega)] at this
theorem lateOK_false {cs : List CV} {os : List Int} {i k : Nat} (hik : i < k) (hk : k < os.length) (h : lateAt cs os i k = false) : lateOK cs os i = false := by
  unfold lateOK
  rw [List.all_eq_false]
  refine ⟨os.getD k 0, ?_, ?_⟩
  · rw [getD_of hk]
    have : os[k] = (os.drop (i + 1))[k - (i + 1)]'(by rw [List.length_drop]; omega) := by
      rw [List.getElem_drop]
      congr 1
      omega
    rw [this]
    exact List.getElem_mem _
  · unfold lateAt at h
    rw [h]
    decide
theorem CallR.far {x : Full} {W : World} {cs : List Value} (h : CallR W x cs) : CallFar x.1 x.2.1 x.2.2 W := by
  obtain ⟨_, ⟨D, dc, h1, h2, h3⟩, R, rc, h4, cells, h5, h6⟩ := h
  exact ⟨D, dc, R, x.2.2.length, rc, (), h1, h4, h2, h3, cells, rfl, h5, h6.imp fun j b cs _ hl => by
    obtain ⟨A, c, e, _, _, hs⟩ := hl
    exact ⟨A, c, e, hs⟩⟩
theorem SeenC.far {W : World} {A : Option Addr} {xs : List Full} (h : SeenC W A xs) {k : Nat} {x : Full} (hk : xs[k]? = some x) : CallFar x.1 x.2.1 x.2.2 W := by
  obtain ⟨cells, h1, h2⟩ := h
  obtain ⟨cs, _, hc, _⟩ := h2.get hk
  exact hc.far
set_option maxRecDepth 16384 in
set_option maxHeartbeats 8000000 in
theorem reflegal_any (A O : Option Addr) (xs : List Full) (os : List Int) (n c m oc : Nat) (w : World) (h : SeenC w A xs) (hn : xs.length = n) (hn2 : n ≤ 140737488355328) (hs : Small xs) (hO : Sees w O (os.map i64v)) (hm : os.length = m) (hm2 : m ≤ 140737488355328) :
    Calls Try.prog 25 #[.slice A n c, .slice O m oc] w (RetLegal xs os w) := by
  have hR := refright_any A xs n c w h hn hn2
  obtain ⟨r, hr⟩ : ∃ r, rightQ (cvs xs) = r := ⟨_, rfl⟩
  rw [hr] at hR
  rw [← right_eq] at hr
  have HR := Lib.hid hR
  have HRR := Lib.hid hr
  have H := Lib.hid h
  have HN := Lib.hid hn
  have HS := Lib.hid hs
  have HO := Lib.hid hO
  have HM := Lib.hid hm
  clear hR hr h hn hs hO hm
  go_enter Try.func25, Try.ntmps25
  cases r with
  | false =>
    go_wp2_with (first
      | (go_at_call 24; refine HR.out.mono ?_; rintro e w2 ⟨rfl, hb2⟩; have HB2 := Lib.hid hb2; clear hb2)
      | fail)
    go_ret2
    exact ⟨_, _, rfl, .inl ⟨HRR.out, rfl, rfl⟩, HB2.out⟩
  | true =>
    have hn3 : n ≤ 2000 := by have := (right_alone HRR.out).1; rw [cvs_length, HN.out] at this; exact this
    have hmk := run_make_row' (P := Try.prog) 68 4 (.bool false) 1 Try.underlying68 (by kernel_rfl) rfl .i64 .i64 n (by omega) (by omega)
    go_upto_region 3 with (first
      | (go_at_call 24; refine HR.out.mono ?_; rintro e w2 ⟨rfl, hb2⟩; have HB2 := Lib.hid hb2; clear hb2)
      | fail)
    obtain ⟨g, hg⟩ : ∃ g, w2.heap.size = g := ⟨_, rfl⟩
    obtain ⟨W3, hW3⟩ : ∃ W3, w2.alloc (.cells (madeCells #[.bool false] n) 4) = W3 := ⟨_, rfl⟩
    have hb3 : Below w2.heap.size w2 W3 := by rw [← hW3]; exact (Below.refl _ _).alloc (Nat.le_refl _) _
    have hg3 : BoolsAt g (metL n os 0) W3 := by
      rw [← hW3, ← hg, metL_zero]
      show (w2.heap.push _)[w2.heap.size]? = _
      have : madeCells #[Value.bool false] n = ((List.replicate n false).map Value.bool).toArray := by
        apply Array.ext'
        rw [toList_madeCells_one]
        simp
      rw [this]
      simp
    have HB3 : Hid (Below w.heap.size w W3) := Lib.hid (below_step HB2.out HB2.out.size hb3)
    have HG0 : Hid (g < W3.heap.size) := Lib.hid hg3.lt
    have HGW : Hid (w.heap.size ≤ g) := Lib.hid (by have := HB2.out.size; omega)
    have REL0 : Hid (∃ k : Nat, Value.int .i64 0 = .int .i64 (k : Int) ∧ k ≤ m ∧ (∀ j, j < k → ordOK n os j = true) ∧ BoolsAt g (metL n os k) W3 ∧ Outside (· = g) W3 W3) :=
      Lib.hid ⟨0, rfl, Nat.zero_le _, fun j hj => by omega, hg3, Outside.refl _ _⟩
    have HW3 := Lib.hid hW3
    have HGG := Lib.hid hg
    clear hb3 hg3 hW3 hg
    have HOW : Hid (∀ W', Below w.heap.size w W' → ∀ k, k < m → ∃ ad, O = some ad ∧ W'.cell? (ad.add k) = some (.int .i64 (os.getD k 0))) := Lib.hid (by
      intro W' hb k hk
      obtain ⟨ad, e, hc⟩ := HO.out k (.int .i64 (os.getD k 0)) (by
        rw [List.getElem?_map, List.getElem?_eq_getElem (by rw [HM.out]; exact hk), getD_of (by rw [HM.out]; exact hk)]
        rfl)
      exact ⟨ad, e, (hb.cell (World.block_lt_of_cell? _ _ hc)).trans hc⟩)
    go_upto_region 4 with fail
    try rw [HGG.out]
    try rw [HW3.out]
    go_wp2_with fail
    go_loopw [7] (fun s wr => ∃ k : Nat, s = .int .i64 (k : Int) ∧ k ≤ m ∧ (∀ j, j < k → ordOK n os j = true) ∧ BoolsAt g (metL n os k) wr ∧ Outside (· = g) W3 wr) (fun s _ => m - (intOf s).toNat)
    case atStart => exact REL0.out
    case round =>
      obtain ⟨k, rfl, hk, hok, hmet, hout⟩ := hrel
      have HOK := Lib.hid hok
      have HOUT := Lib.hid hout
      have HBR : Hid (Below w.heap.size w wr) := Lib.hid (HB3.out.trans (hout.below (fun b hb => by have := HGW.out; omega) HB3.out.size))
      clear hok hout
      by_cases hlt : k < m
      · have hki : (k : Int) < (m : Int) := by omega
        obtain ⟨ad, rfl, hc⟩ := HOW.out wr HBR.out k hlt
        obtain ⟨v, hv⟩ : ∃ v, os.getD k 0 = v := ⟨_, rfl⟩
        rw [hv] at hc
        have HV := Lib.hid hv
        clear hv
        have HNO : Hid (ordOK n os k = false → LegalIs xs os 0 1) := Lib.hid (fun h => .inr ⟨HRR.out, .inl ⟨(fun hp => by rw [HN.out] at hp; rw [hp k (by rw [HM.out]; exact hlt)] at h; cases h), rfl, rfl⟩⟩)
        by_cases g1 : v < 0
        · go_wp2_with fail
          go_ret2
          exact ⟨_, _, rfl, HNO.out (by unfold ordOK; rw [HV.out]; simp; omega), HBR.out⟩
        · by_cases g2 : (n : Int) ≤ v
          · have g3 : ¬ v < (n : Int) := by omega
            go_wp2_with fail
            go_ret2
            exact ⟨_, _, rfl, HNO.out (by unfold ordOK; rw [HV.out]; simp; omega), HBR.out⟩
          · obtain ⟨x, rfl⟩ : ∃ x : Nat, v = (x : Int) := ⟨v.toNat, by omega⟩
            have hxn : x < n := by omega
            have g3 : (x : Int) < (n : Int) := by omega
            have c3 := hmet.cell (i := x) (by rw [metL_length]; exact hxn)
            rw [metL_get hxn] at c3
            have f3 := hmet.frozen x
            have HMET := Lib.hid hmet
            obtain ⟨b, hb⟩ : ∃ b, (os.take k).contains (x : Int) = b := ⟨_, rfl⟩
            rw [hb] at c3
            have HBB := Lib.hid hb
            clear hmet hb
            cases b with
            | true =>
              go_wp2_with fail
              go_ret2
              exact ⟨_, _, rfl, HNO.out (by unfold ordOK; rw [HV.out, HBB.out]; simp), HBR.out⟩
            | false =>
              go_wp2_with fail
              go_roundw
              case rel =>
                refine ⟨k + 1, by go_num, hlt, ?_, ?_, HOUT.out.set _ _ (.inr rfl)⟩
                · intro j hj
                  rcases Nat.lt_or_ge j k with h9 | h9
                  · exact HOK.out j h9
                  · obtain rfl : j = k := by omega
                    unfold ordOK
                    rw [HV.out, HBB.out]
                    simp
                    omega
                · rw [← metL_set (by rw [HM.out]; exact hlt) HV.out]
                  exact HMET.out.set x true
              case measure => simp [intOf] <;> omega
      · have hki : ¬ (k : Int) < (m : Int) := by omega
        have hkm : k = m := by omega
        have HORD : Hid (ordP n os) := Lib.hid (fun j hj => HOK.out j (by rw [hkm, ← HM.out]; exact hj))
        rw [hkm, ← HM.out] at hmet
        clear hkm
        obtain ⟨wq, hwq⟩ : ∃ wq : World, wq = wr := ⟨_, rfl⟩
        subst hwq
        clear HOK HOUT REL0 HB3
        have HBQ : Hid (Below w.heap.size w wq) := HBR
        have HMETQ := Lib.hid hmet
        clear hmet
        go_wp2_with fail
        go_loopw [8] (fun s wr => ∃ k' : Nat, s = .int .i64 (k' : Int) ∧ k' ≤ n ∧ (∀ j, j < k' → ansOK (cvs xs) os j = true) ∧ wq = wr) (fun s _ => n - (intOf s).toNat)
        case atStart => exact ⟨0, rfl, Nat.zero_le _, fun j hj => by omega, rfl⟩
        case round =>
          obtain ⟨k', rfl, hk', hok, rfl⟩ := hrel
          have HOK := Lib.hid hok
          clear hok
          by_cases hlt : k' < n
          · have hki2 : (k' : Int) < (n : Int) := by omega
            obtain ⟨x, hx, hxc⟩ := atC_get (xs := xs) (k := k') (by rw [HN.out]; exact hlt)
            obtain ⟨ad, rfl, _, x1, _⟩ := (H.out.below HBQ.out).all hx
            have a5 := x1 5 _ (by decide) rfl
            obtain ⟨an, han⟩ : ∃ an, x.1.ans = an := ⟨_, rfl⟩
            rw [han] at a5
            have HAN : Hid ((atC (cvs xs) (k' : Int)).ans = an) := Lib.hid (by rw [← hxc]; exact han)
            have c3 := HMETQ.out.cell (i := k') (by rw [metL_length]; exact hlt)
            rw [metL_all n os k' hlt] at c3
            obtain ⟨b, hb⟩ : ∃ b, os.contains (k' : Int) = b := ⟨_, rfl⟩
            rw [hb] at c3
            have HBB := Lib.hid hb
            clear hb x1 hx hxc han
            cases an with
            | false =>
              go_wp2_with fail
              go_roundw
              case rel =>
                refine ⟨k' + 1, by go_num, hlt, ?_, by first | rfl | trivial⟩
                intro j hj
                rcases Nat.lt_or_ge j k' with h9 | h9
                · exact HOK.out j h9
                · obtain rfl : j = k' := by omega
                  unfold ansOK
                  rw [HAN.out]
                  rfl
              case measure => simp [intOf] <;> omega
            | true =>
              cases b with
              | true =>
                go_wp2_with fail
                go_roundw
                case rel =>
                  refine ⟨k' + 1, by go_num, hlt, ?_, by first | rfl | trivial⟩
                  intro j hj
                  rcases Nat.lt_or_ge j k' with h9 | h9
                  · exact HOK.out j h9
                  · obtain rfl : j = k' := by omega
                    unfold ansOK
                    rw [HAN.out, HBB.out]
                    rfl
                case measure => simp [intOf] <;> omega
              | false =>
                have HNO : Hid (¬ ansP (cvs xs) os) := Lib.hid (fun h => by
                  have h1 := h k' (by rw [cvs_length, HN.out]; exact hlt)
                  unfold ansOK at h1
                  rw [HAN.out, HBB.out] at h1
                  cases h1)
                go_wp2_with fail
                go_ret2
                exact ⟨_, _, rfl, .inr ⟨HRR.out, .inr ⟨by rw [HN.out]; exact HORD.out, .inl ⟨HNO.out, by rw [HM.out], rfl⟩⟩⟩, HBQ.out⟩
          · have hki2 : ¬ (k' : Int) < (n : Int) := by omega
            have HANS : Hid (ansP (cvs xs) os) := Lib.hid (fun j hj => HOK.out j (by rw [cvs_length, HN.out] at hj; omega))
            clear HOK
            go_wp2_with fail
            go_loopw [9] (fun s wr => ∃ i : Nat, s = .int .i64 (i : Int) ∧ i ≤ m ∧ (∀ j, j < i → lateOK (cvs xs) os j = true) ∧ Below w.heap.size w wr) (fun s _ => m - (intOf s).toNat)
            case atStart => exact ⟨0, rfl, Nat.zero_le _, fun j hj => by omega, HBQ.out⟩
            case round =>
              obtain ⟨i, rfl, hi, hlo, hbi⟩ := hrel
              have HLO := Lib.hid hlo
              have HBI := Lib.hid hbi
              clear hlo hbi
              by_cases him : i < m
              · have hii : (i : Int) < (m : Int) := by omega
                obtain ⟨wo, hwo⟩ : ∃ wo : World, wo = wr := ⟨_, rfl⟩
                subst hwo
                go_wp2_with fail
                go_loopw [10] (fun s wr => ∃ k : Nat, s = .int .i64 (k : Int) ∧ i < k ∧ k ≤ m ∧ (∀ j, i < j → j < k → lateAt (cvs xs) os i j = true) ∧ Below w.heap.size w wr) (fun s _ => m - (intOf s).toNat)
                case atStart => exact ⟨i + 1, by go_num, by omega, him, fun j h1 h2 => by omega, HBI.out⟩
                case round =>
                  obtain ⟨k, rfl, hik, hkm, hla, hbk⟩ := hrel
                  have HLA := Lib.hid hla
                  have HBK := Lib.hid hbk
                  clear hla hbk
                  by_cases hlt2 : k < m
                  · have hkk : (k : Int) < (m : Int) := by omega
                    obtain ⟨x, hxo, hxn⟩ := ord_mem HORD.out (i := i) (by rw [HM.out]; exact him)
                    obtain ⟨y, hyo, hyn⟩ := ord_mem HORD.out (i := k) (by rw [HM.out]; exact hlt2)
                    have hxi : (x : Int) < (n : Int) := by omega
                    have hyi : (y : Int) < (n : Int) := by omega
                    obtain ⟨ao, rfl, hco⟩ := HOW.out wr HBK.out i him
                    obtain ⟨ao', eo, hco2⟩ := HOW.out wr HBK.out k hlt2
                    cases eo
                    rw [hxo] at hco
                    rw [hyo] at hco2
                    obtain ⟨p, hp, hpc⟩ := atC_get (xs := xs) (k := x) (by rw [HN.out]; exact hxn)
                    obtain ⟨g2, hg2, hgc⟩ := atC_get (xs := xs) (k := y) (by rw [HN.out]; exact hyn)
                    obtain ⟨ad, rfl, hc1, ⟨D1, dc1, e1, _⟩, R1, rc1, e2, _⟩ := (H.out.below HBK.out).at hp
                    obtain ⟨ad', e', hc2, ⟨D2, dc2, e3, _⟩, R2, rc2, e4, _⟩ := (H.out.below HBK.out).at hg2
                    cases e'
                    have hone1 : p.1.cells.all (·.oneCell') = true := by
                      have := all_oneCell_toArray (oneCells p.1 (by rw [e1]; rfl) (by rw [e2]; rfl))
                      simpa using this
                    have hone2 : g2.1.cells.all (·.oneCell') = true := by
                      have := all_oneCell_toArray (oneCells g2.1 (by rw [e3]; rfl) (by rw [e4]; rfl))
                      simpa using this
                    have hla : lateAt (cvs xs) os i k = (!g2.1.ans || decide (p.1.beg ≤ g2.1.fin)) := by
                      unfold lateAt
                      rw [hxo, hyo, ← hpc, ← hgc]
                    obtain ⟨W1, W2, hW1, hW2, hb1, hb2, x1, x2⟩ := box_two p.1 g2.1 wr
                    obtain ⟨pb, hpb⟩ : ∃ pb, wr.heap.size = pb := ⟨_, rfl⟩
                    obtain ⟨gb, hgb⟩ : ∃ gb, W1.heap.size = gb := ⟨_, rfl⟩
                    rw [hpb] at x1
                    rw [hgb] at x2
                    have p1 : W2.cell? ⟨pb, 1, none⟩ = some (.int .i64 p.1.beg) := x1 1 _ rfl
                    have g2' : W2.cell? ⟨gb, 2, none⟩ = some (.int .i64 g2.1.fin) := x2 2 _ rfl
                    have g5 : W2.cell? ⟨gb, 5, none⟩ = some (.bool g2.1.ans) := x2 5 _ rfl
                    have HC1 := Lib.hid hc1
                    have hc2' : ∀ j v, g2.1.cells.toList[j]? = some v → W1.cell? ((ad.add (y * 12)).add j) = some v := fun j v hj => (hb1.cell (World.block_lt_of_cell? _ _ (hc2 j v hj))).trans (hc2 j v hj)
                    have hco2' : W1.cell? (ao.add k) = some (.int .i64 (y : Int)) := (hb1.cell (World.block_lt_of_cell? _ _ hco2)).trans hco2
                    have HC2 := Lib.hid hc2'
                    have HO1 := Lib.hid hone1
                    have HO2 := Lib.hid hone2
                    have HW1 := Lib.hid hW1
                    have HW2 := Lib.hid hW2
                    have HPB := Lib.hid hpb
                    have HGB := Lib.hid hgb
                    have HLT := Lib.hid hla
                    have HBE : Hid (Below w.heap.size w W2) := Lib.hid (below_step (below_step HBK.out HBK.out.size hb1) (Nat.le_trans HBK.out.size hb1.size) hb2)
                    clear hc1 hc2 hc2' hone1 hone2 hW1 hW2 hb1 hb2 x1 x2 e1 e2 e3 e4 hp hg2 hpb hgb hla hxo hyo hco2 hpc hgc
                    go_upto_region 22 with (first
                      | (refine wpList_load_far rfl 50 _ rfl (ad.add (x * 12)) rfl p.1.cells.toList _ HC1.out Try.underlying50 rfl (by kernel_rfl) ?_)
                      | (refine wpList_store_mid rfl 50 _ _ rfl wr.heap.size 0 p.1.cells rfl rfl (there_oneR wr) (by kernel_rfl) HO1.out ?_)
                      | fail)
                    have hWW := HW1.out
                    unfold zeros12 at hWW
                    rw [hWW, HPB.out]
                    clear hWW hco
                    go_upto_region 23 with (first
                      | (refine wpList_load_far rfl 50 _ rfl (ad.add (y * 12)) rfl g2.1.cells.toList _ HC2.out Try.underlying50 rfl (by kernel_rfl) ?_)
                      | (refine wpList_store_mid rfl 50 _ _ rfl W1.heap.size 0 g2.1.cells rfl rfl (there_oneR W1) (by kernel_rfl) HO2.out ?_)
                      | fail)
                    have hWW := HW2.out
                    unfold zeros12 at hWW
                    rw [hWW, HGB.out]
                    clear hWW
                    obtain ⟨⟨q1, q2, q3, q4, q5, q6, q7, q8, q9, q10, q11, q12⟩, qd, qr⟩ := p
                    obtain ⟨⟨r1, r2, r3, r4, r5, r6, r7, r8, r9, r10, r11, r12⟩, rd, rr⟩ := g2
                    dsimp only at p1 g2' g5 HLT
                    have HSTEP : Hid (lateAt (cvs xs) os i k = true → ∃ k' : Nat, Value.int .i64 ((k : Int) + 1) = .int .i64 (k' : Int) ∧ i < k' ∧ k' ≤ m ∧ (∀ j, i < j → j < k' → lateAt (cvs xs) os i j = true) ∧ Below w.heap.size w W2) := Lib.hid (fun h => ⟨k + 1, by go_num, by omega, hlt2, fun j h1 h2 => by
                      rcases Nat.lt_or_ge j k with h9 | h9
                      · exact HLA.out j h1 h9
                      · obtain rfl : j = k := by omega
                        exact h, HBE.out⟩)
                    cases r6 with
                    | false =>
                      have HT : Hid (lateAt (cvs xs) os i k = true) := Lib.hid HLT.out
                      clear HLT
                      go_wp2_with fail
                      go_roundw
                      case rel => exact HSTEP.out HT.out
                      case measure => simp [intOf] <;> omega
                    | true =>
                      by_cases g1 : q2 ≤ r3
                      · have HT : Hid (lateAt (cvs xs) os i k = true) := Lib.hid (by rw [HLT.out, decide_eq_true g1]; rfl)
                        have g1' : ¬ r3 < q2 := by omega
                        clear HLT
                        go_wp2_with fail
                        go_roundw
                        case rel => exact HSTEP.out HT.out
                        case measure => simp [intOf] <;> omega
                      · have HT : Hid (lateAt (cvs xs) os i k = false) := Lib.hid (by rw [HLT.out, decide_eq_false g1]; rfl)
                        have g1' : r3 < q2 := by omega
                        have HKM : Hid (k < os.length) := Lib.hid (by rw [HM.out]; exact hlt2)
                        have HIM : Hid (i < os.length) := Lib.hid (by rw [HM.out]; exact him)
                        clear HLT
                        go_wp2_with fail
                        go_ret2
                        exact ⟨_, _, rfl, .inr ⟨HRR.out, .inr ⟨by rw [HN.out]; exact HORD.out, .inr ⟨HANS.out, .inl ⟨i, HIM.out, lateOK_false hik HKM.out HT.out, HLO.out, rfl, rfl⟩⟩⟩⟩, HBE.out⟩
                  · have hkk : ¬ (k : Int) < (m : Int) := by omega
                    have HOKI : Hid (lateOK (cvs xs) os i = true) := Lib.hid (lateOK_true (fun j h1 h2 => HLA.out j h1 (by rw [HM.out] at h2; omega)))
                    go_wp2_with fail
                    go_roundw
                    case rel =>
                      refine ⟨i + 1, by go_num, him, fun j hj => ?_, HBK.out⟩
                      rcases Nat.lt_or_ge j i with h9 | h9
                      · exact HLO.out j h9
                      · obtain rfl : j = i := by omega
                        exact HOKI.out
                    case measure => simp [intOf] <;> omega
              · have hii : ¬ (i : Int) < (m : Int) := by omega
                have HLATE : Hid (lateP (cvs xs) os) := Lib.hid (fun j hj => HLO.out j (by rw [HM.out] at hj; omega))
                clear HLO
                obtain ⟨gm, hgm⟩ : ∃ gm, wr.heap.size = gm := ⟨_, rfl⟩
                obtain ⟨W7, hW7⟩ : ∃ W7, wr.alloc (.cells #[.int .i64 0, .slice none 0 0] 28) = W7 := ⟨_, rfl⟩
                have hmod : ModAt 28 (fun b => gm ≤ b) gm 0 [] W7 := by
                  rw [← hW7, ← hgm]
                  exact ⟨none, 0, [], heap_alloc_new wr _, Nat.le_refl _, ⟨rfl, .inl ⟨rfl, rfl⟩⟩, fun b hb => by simp [Value.ownBlock] at hb, Recs.nil⟩
                have hb7 : Below wr.heap.size wr W7 := by rw [← hW7]; exact (Below.refl _ _).alloc (Nat.le_refl _) _
                have hlm : ∀ k : Nat, (runM xs os k).1 ≤ k ∧ (runM xs os k).2.length ≤ k := fun k => by have := run_bound xs os k; omega
                have hm20 : m ≤ 2000 := by have := ord_len HORD.out; have := HM.out; omega
                have HD : Hid (∀ x ∈ xs, x.2.1.length ≤ 140737488355328) := Lib.hid (fun x hx => by have := (HS.out x hx).1; omega)
                have HLM := Lib.hid hlm
                have HRM := Lib.hid (run_mem (xs := xs) HD.out os)
                have HB7 := Lib.hid hb7
                have HGM := Lib.hid hgm
                have REL7 : Hid (∃ q : Nat, Value.int .i64 0 = .int .i64 (q : Int) ∧ q ≤ m ∧ (∀ j, j < q → fitAt xs os j = true) ∧ ModAt 28 (fun b => gm ≤ b) gm (runM xs os q).1 (runM xs os q).2 W7 ∧ Outside (fun b => gm ≤ b) wr W7) :=
                  Lib.hid ⟨0, rfl, Nat.zero_le _, fun j hj => by omega, hmod, Outside.of_below hb7⟩
                have HW7 := Lib.hid hW7
                clear hlm hb7 hmod hgm hW7
                obtain ⟨W, hWr⟩ : ∃ W : World, W = wr := ⟨_, rfl⟩
                subst hWr
                go_upto_region 26 with (fail)
                rw [HW7.out, HGM.out]
                go_wp2_with fail
                go_loopw [14] (fun s wr => ∃ q : Nat, s = .int .i64 (q : Int) ∧ q ≤ m ∧ (∀ j, j < q → fitAt xs os j = true) ∧ ModAt 28 (fun b => gm ≤ b) gm (runM xs os q).1 (runM xs os q).2 wr ∧ Outside (fun b => gm ≤ b) W wr) (fun s _ => m - (intOf s).toNat)
                case atStart => exact REL7.out
                case round =>
                  obtain ⟨q, rfl, hq, hok, hmod, hout⟩ := hrel
                  have HOK := Lib.hid hok
                  have HMOD := Lib.hid hmod
                  have HOUT := Lib.hid hout
                  have hbr : Below W.heap.size W wr := hout.below (fun b hb => by rw [HGM.out]; exact hb) (Nat.le_refl _)
                  have HBR2 : Hid (Below w.heap.size w wr) := Lib.hid (below_step HBI.out HBI.out.size hbr)
                  clear hok hmod hout hbr
                  by_cases hlt : q < m
                  · have hqi : (q : Int) < (m : Int) := by omega
                    obtain ⟨ao, rfl, hc⟩ := HOW.out wr HBR2.out q hlt
                    obtain ⟨x, hxo, hxlt⟩ := ord_mem HORD.out (i := q) (by rw [HM.out]; exact hlt)
                    rw [hxo] at hc
                    have xx : (x : Int) < (n : Int) := by omega
                    obtain ⟨y, hy⟩ : ∃ y, atF xs (x : Int) = y := ⟨_, rfl⟩
                    have hget2 : xs[x]? = some y := by rw [← hy]; exact atF_get (by rw [HN.out]; exact hxlt)
                    have hsee := (H.out.below HBR2.out).far hget2
                    obtain ⟨ad, rfl, hra, _⟩ := (H.out.below HBR2.out).at hget2
                    have hfit := reffits_any y.1 y.2.1 y.2.2 wr HMOD.out (by have := (HLM.out q).1; omega) (by have := (HLM.out q).2; omega) (fun z hz => HRM.out q z hz) (HD.out y (List.mem_of_getElem? hget2)) hsee
                    have hfa : fitAt xs os q = (fitOK y.1 y.2.2 (runM xs os q).1 (runM xs os q).2 || !y.1.ans) := by
                      unfold fitAt
                      rw [hxo, hy]
                    have hrs : runM xs os (q + 1) = (fitF y.1 (runM xs os q).1 (runM xs os q).2, fitL y.1 y.2.1 (runM xs os q).1 (runM xs os q).2) := by
                      simp only [runM]
                      rw [hxo, hy]
                    rw [← hfa] at hfit
                    obtain ⟨b, hb⟩ : ∃ b, fitAt xs os q = b := ⟨_, rfl⟩
                    rw [hb] at hfit
                    have HRA := Lib.hid hra
                    have HFIT := Lib.hid hfit
                    have HFB := Lib.hid hb
                    have HRS := Lib.hid hrs
                    clear hget2 hra hsee hfit hfa hrs hb hxo hy
                    cases b with
                    | true =>
                      go_wp2_with (first
                        | (refine wpList_load_far rfl 50 _ rfl (ad.add (x * 12)) rfl y.1.cells.toList _ HRA.out Try.underlying50 rfl (by kernel_rfl) ?_)
                        | (go_at_call 35; refine HFIT.out.mono ?_; rintro e w8 ⟨rfl, hm8, ho8⟩; have HM8 := Lib.hid hm8; have HO8 := Lib.hid ho8; clear hm8 ho8)
                        | fail)
                      go_roundw
                      case rel =>
                        refine ⟨q + 1, by go_num, hlt, ?_, ?_, ?_⟩
                        · intro j hj
                          rcases Nat.lt_or_ge j q with h9 | h9
                          · exact HOK.out j h9
                          · obtain rfl : j = q := by omega
                            exact HFB.out
                        · rw [HRS.out]
                          refine HM8.out.mono fun b hb => ?_
                          rcases hb with hb | hb
                          · exact hb
                          · have := HOUT.out.size
                            have := HGM.out
                            omega
                        · exact HOUT.out.trans HO8.out (fun b _ hb => hb)
                      case measure => simp [intOf] <;> omega
                    | false =>
                      have HQ2 : Hid (q < os.length) := Lib.hid (by rw [HM.out]; exact hlt)
                      go_wp2_with (first
                        | (refine wpList_load_far rfl 50 _ rfl (ad.add (x * 12)) rfl y.1.cells.toList _ HRA.out Try.underlying50 rfl (by kernel_rfl) ?_)
                        | (go_at_call 35; refine HFIT.out.mono ?_; rintro e w8 ⟨rfl, hm8, ho8⟩; have HM8 := Lib.hid hm8; have HO8 := Lib.hid ho8; clear hm8 ho8)
                        | fail)
                      have hb8 : Below gm wr w8 := HO8.out.below (fun b hb => hb) (by have := HOUT.out.size; have := HGM.out; omega)
                      go_ret2
                      exact ⟨_, _, rfl, .inr ⟨HRR.out, .inr ⟨by rw [HN.out]; exact HORD.out, .inr ⟨HANS.out, .inr ⟨HLATE.out, .inl ⟨q, HQ2.out, HFB.out, HOK.out, rfl, rfl⟩⟩⟩⟩⟩, HBR2.out.trans (hb8.mono (by have := HBI.out.size; have := HGM.out; omega))⟩
                  · have hqi : ¬ (q : Int) < (m : Int) := by omega
                    have HALL : Hid (∀ j, j < os.length → fitAt xs os j = true) := Lib.hid (fun j hj => HOK.out j (by rw [HM.out] at hj; omega))
                    go_wp2_with fail
                    go_ret2
                    exact ⟨_, _, rfl, .inr ⟨HRR.out, .inr ⟨by rw [HN.out]; exact HORD.out, .inr ⟨HANS.out, .inr ⟨HLATE.out, .inr ⟨HALL.out, rfl, rfl⟩⟩⟩⟩⟩, HBR2.out⟩
end Go.Proofs.Ytbnbeailbhnbdaa
