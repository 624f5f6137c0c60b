/-
  HistoryTime: the walk.
-/
import Derived.Test.YtbnbeailbhnbdaaOwnA
import Derived.Test.YtbnbeailbhnbdaaTimeP
set_option linter.unusedVariables false
set_option linter.unusedSimpArgs false
namespace Go.Proofs.Ytbnbeailbhnbdaa
open Go.RowKit

/-- What Own and Legal told. -/
theorem SameF.at {xs ys : List Full} (h : ∀ (j : Nat) (x y : Full), xs[j]? = some x → ys[j]? = some y → SameF x y) (hl : ys.length = xs.length) {i : Nat} (hi : i < xs.length) : SameF (atF xs (i : Int)) (atF ys (i : Int)) := by
  refine h i _ _ ?_ ?_
  · unfold atF
    rw [Int.toNat_natCast, List.getD_eq_getElem?_getD, List.getElem?_eq_getElem hi]
    rfl
  · unfold atF
    rw [Int.toNat_natCast, List.getD_eq_getElem?_getD, List.getElem?_eq_getElem (by omega)]
    rfl
theorem same_data {xs ys : List Full} (h : ∀ (j : Nat) (x y : Full), xs[j]? = some x → ys[j]? = some y → SameF x y) (hl : ys.length = xs.length) (hs : Small xs) : ∀ y ∈ ys, y.2.1.length ≤ 140737488355328 := by
  intro y hy
  obtain ⟨j, hj, rfl⟩ := List.getElem_of_mem hy
  have := h j _ _ (List.getElem?_eq_getElem (by omega)) (List.getElem?_eq_getElem hj)
  rw [this.1]
  have := (hs _ (List.getElem_mem (show j < xs.length by omega))).1
  omega
theorem atF_get {xs : List Full} {i : Nat} (hi : i < xs.length) : xs[i]? = some (atF xs (i : Int)) := by
  unfold atF
  rw [Int.toNat_natCast, List.getD_eq_getElem?_getD, List.getElem?_eq_getElem hi]
  rfl
/-- Two calls in two new boxes. -/
theorem box_two (c d : CV) (w : World) : ∃ W1 W2, (w.alloc (.cells zeros12 50)).setCells w.heap.size 0 c.cells.toList = W1 ∧ (W1.alloc (.cells zeros12 50)).setCells W1.heap.size 0 d.cells.toList = W2 ∧ Below w.heap.size w W1 ∧ Below W1.heap.size W1 W2 ∧
    (∀ j v, c.cells.toList[j]? = some v → W2.cell? ⟨w.heap.size, j, none⟩ = some v) ∧ (∀ j v, d.cells.toList[j]? = some v → W2.cell? ⟨W1.heap.size, j, none⟩ = some v) := by
  obtain ⟨h1, h2⟩ := box_callR (c := c) w
  obtain ⟨W1, hW1⟩ : ∃ W1, (w.alloc (.cells zeros12 50)).setCells w.heap.size 0 c.cells.toList = W1 := ⟨_, rfl⟩
  rw [hW1] at h1 h2
  obtain ⟨h3, h4⟩ := box_callR (c := d) W1
  refine ⟨W1, _, hW1, rfl, h1, h3, fun j v hj => ?_, fun j v hj => ?_⟩
  · have h9 := h2 j v hj
    rw [Nat.zero_add] at h9
    exact (h3.cell (World.block_lt_of_cell? _ _ h9)).trans h9
  · have h9 := h4 j v hj
    rw [Nat.zero_add] at h9
    exact h9
set_option maxRecDepth 16384 in
set_option maxHeartbeats 8000000 in
theorem time_any (A O : Option Addr) (xs : List Full) (os : List Int) (n c m oc : Nat) (w : World) (h : SeenC w A xs) (hn : xs.length = n) (hn2 : n * 128 ≤ 140737488351232) (hs : Small xs) (hO : Sees w O (os.map i64v)) (hm : os.length = m) (hm2 : m ≤ 140737488355328) :
    Calls Try.prog 5 #[.slice A n c, .slice O m oc] w (RetBool w true) := by
  have HOWN := Lib.hid (own_any A xs n c w h hn hn2 hs)
  have H := Lib.hid h
  have HN := Lib.hid hn
  have HS := Lib.hid hs
  have HO := Lib.hid hO
  have HM := Lib.hid hm
  clear h hn hs hO hm
  go_enter Try.func5, Try.ntmps5
  go_upto_region 2 with (first
    | (go_at_call 22; refine HOWN.out.mono ?_; rintro e w1 ⟨A1, c1, gc, ys, rfl, hl1, hsm, hf1, hg1, hb1⟩; rw [HN.out]; have HL1 := Lib.hid hl1; have HSM := Lib.hid hsm; have HB1 := Lib.hid hb1; rw [HN.out] at hf1; have HLG := Lib.hid (legal_any (cp := c1) (oc := oc) w1 hf1 hg1 (by omega) (HO.out.below hb1) HM.out hm2 (same_data hsm hl1 HS.out)); clear hl1 hsm hf1 hg1 hb1)
    | (go_at_call 21; refine HLG.out.mono ?_; rintro e w2 ⟨la, le, rfl, hlg, hb2⟩; have HLI := Lib.hid hlg; have HB2 := Lib.hid (below_step HB1.out HB1.out.size hb2); clear hlg hb2)
    | fail)
  by_cases hle : le = 0
  · subst hle
    have HLW := Lib.hid HLI.out.lawful
    go_wp2_with (first
      | (go_at_call 23; refine (num_any _ _).mono ?_; rintro e w3 ⟨rfl, rfl⟩)
      | fail)
    go_loopw [7] (fun s7 wr => ∃ i : Nat, s7 = .int .i64 (i : Int) ∧ i ≤ n ∧ Below w.heap.size w wr) (fun s7 _ => n - (intOf s7).toNat)
    case atStart => exact ⟨0, rfl, Nat.zero_le _, HB2.out⟩
    case round =>
      obtain ⟨i, rfl, hi, hb⟩ := hrel
      have HB := Lib.hid hb
      clear hb
      by_cases hin : i < n
      · have hii : (i : Int) < (n : Int) := by omega
        go_wp2_with fail
        obtain ⟨wo, hwo⟩ : ∃ wo : World, wo = wr := ⟨_, rfl⟩
        subst hwo
        go_loopw [8] (fun s8 wr => ∃ k : Nat, s8 = .int .i64 (k : Int) ∧ k ≤ n ∧ Below w.heap.size w wr) (fun s8 _ => n - (intOf s8).toNat)
        case atStart => exact ⟨0, rfl, Nat.zero_le _, HB.out⟩
        case round =>
          obtain ⟨k, rfl, hk, hbk⟩ := hrel
          have HBK := Lib.hid hbk
          clear hbk
          by_cases hkn : k < n
          · have hki : (k : Int) < (n : Int) := by omega
            obtain ⟨p, hp⟩ : ∃ p, atF xs (i : Int) = p := ⟨_, rfl⟩
            obtain ⟨g, hg⟩ : ∃ g, atF xs (k : Int) = g := ⟨_, rfl⟩
            obtain ⟨ad, rfl, hc1, ⟨D1, dc1, e1, _⟩, R1, rc1, e2, _⟩ := (H.out.below HBK.out).at (atF_get (by rw [HN.out]; exact hin))
            obtain ⟨ad', e', hc2, ⟨D2, dc2, e3, _⟩, R2, rc2, e4, _⟩ := (H.out.below HBK.out).at (atF_get (by rw [HN.out]; exact hkn))
            cases e'
            rw [hp] at hc1 e1 e2
            rw [hg] at hc2 e3 e4
            have hone1 : p.1.cells.all (·.oneCell') = true := by
              have := all_oneCell_toArray (oneCells p.1 (by rw [e1]; rfl) (by rw [e2]; rfl))
              simpa using this
            have hone2 : g.1.cells.all (·.oneCell') = true := by
              have := all_oneCell_toArray (oneCells g.1 (by rw [e3]; rfl) (by rw [e4]; rfl))
              simpa using this
            have htime : p.1.kind = 1 → g.1.kind = 2 → p.1.ans = true → g.1.ans = true → ¬ (p.1.fin < g.1.beg ∧ g.1.number ≤ p.1.number) ∧ ¬ (g.1.fin < p.1.beg ∧ p.1.number < g.1.number) := by
              intro k1 k2 k3 k4
              have s1 := SameF.at HSM.out HL1.out (i := i) (by rw [HN.out]; exact hin)
              have s2 := SameF.at HSM.out HL1.out (i := k) (by rw [HN.out]; exact hkn)
              rw [hp] at s1
              rw [hg] at s2
              have := HLW.out.time (i := i) (k := k) (by rw [HL1.out, HN.out]; exact hin) (by rw [HL1.out, HN.out]; exact hkn) (by rw [s1.2]; exact k1) (by rw [s2.2]; exact k2) (by rw [s1.2]; exact k3) (by rw [s2.2]; exact k4)
              rw [s1.2, s2.2] at this
              exact this
            obtain ⟨W1, W2, hW1, hW2, hb1, hb2, x1, x2⟩ := box_two p.1 g.1 wr
            obtain ⟨pb, hpb⟩ : ∃ pb, wr.heap.size = pb := ⟨_, rfl⟩
            obtain ⟨gb, hgb⟩ : ∃ gb, W1.heap.size = gb := ⟨_, rfl⟩
            rw [hpb] at x1
            rw [hgb] at x2
            have p1 : W2.cell? ⟨pb, 1, none⟩ = some (.int .i64 p.1.beg) := x1 1 _ rfl
            have p2 : W2.cell? ⟨pb, 2, none⟩ = some (.int .i64 p.1.fin) := x1 2 _ rfl
            have p3 : W2.cell? ⟨pb, 3, none⟩ = some (.int .i64 p.1.kind) := x1 3 _ rfl
            have p5 : W2.cell? ⟨pb, 5, none⟩ = some (.bool p.1.ans) := x1 5 _ rfl
            have p8 : W2.cell? ⟨pb, 8, none⟩ = some (.int .i64 p.1.number) := x1 8 _ rfl
            have g1 : W2.cell? ⟨gb, 1, none⟩ = some (.int .i64 g.1.beg) := x2 1 _ rfl
            have g2 : W2.cell? ⟨gb, 2, none⟩ = some (.int .i64 g.1.fin) := x2 2 _ rfl
            have g3 : W2.cell? ⟨gb, 3, none⟩ = some (.int .i64 g.1.kind) := x2 3 _ rfl
            have g5 : W2.cell? ⟨gb, 5, none⟩ = some (.bool g.1.ans) := x2 5 _ rfl
            have g8 : W2.cell? ⟨gb, 8, none⟩ = some (.int .i64 g.1.number) := x2 8 _ rfl
            have HC1 := Lib.hid hc1
            have hc2' : ∀ j v, g.1.cells.toList[j]? = some v → W1.cell? ((ad.add (k * 12)).add j) = some v := fun j v hj => (hb1.cell (World.block_lt_of_cell? _ _ (hc2 j v hj))).trans (hc2 j v hj)
            have HC2 := Lib.hid hc2'
            have HO1 := Lib.hid hone1
            have HO2 := Lib.hid hone2
            have HW1 := Lib.hid hW1
            have HW2 := Lib.hid hW2
            have HPB := Lib.hid hpb
            have HGB := Lib.hid hgb
            have HBE : Hid (Below w.heap.size w W2) := Lib.hid (below_step (below_step HBK.out HBK.out.size hb1) (Nat.le_trans HBK.out.size hb1.size) hb2)
            clear hc1 hc2 hc2' hone1 hone2 hW1 hW2 hb1 hb2 x1 x2 e1 e2 e3 e4 hp hg hpb hgb
            go_upto_region 11 with (first
              | (refine wpList_load_far rfl 50 _ rfl (ad.add (i * 12)) rfl p.1.cells.toList _ HC1.out Try.underlying50 rfl (by kernel_rfl) ?_)
              | (refine wpList_store_mid rfl 50 _ _ rfl wr.heap.size 0 p.1.cells rfl rfl (there_oneR wr) (by kernel_rfl) HO1.out ?_)
              | fail)
            have hWW := HW1.out
            unfold zeros12 at hWW
            rw [hWW, HPB.out]
            clear hWW
            go_upto_region 12 with (first
              | (refine wpList_load_far rfl 50 _ rfl (ad.add (k * 12)) rfl g.1.cells.toList _ HC2.out Try.underlying50 rfl (by kernel_rfl) ?_)
              | (refine wpList_store_mid rfl 50 _ _ rfl W1.heap.size 0 g.1.cells rfl rfl (there_oneR W1) (by kernel_rfl) HO2.out ?_)
              | fail)
            have hWW := HW2.out
            unfold zeros12 at hWW
            rw [hWW, HGB.out]
            clear hWW
            obtain ⟨⟨q1, q2, q3, q4, q5, q6, q7, q8, q9, q10, q11, q12⟩, qd, qr⟩ := p
            obtain ⟨⟨r1, r2, r3, r4, r5, r6, r7, r8, r9, r10, r11, r12⟩, rd, rr⟩ := g
            dsimp only at p1 p2 p3 p5 p8 g1 g2 g3 g5 g8 htime
            have HTI := Lib.hid htime
            clear htime
            by_cases t1 : q4 = 1
            · subst t1
              by_cases t2 : r4 = 2
              · subst t2
                cases q6 with
                | false =>
                  go_wp2_with fail
                  go_roundw
                  case rel => exact ⟨k + 1, by go_num, hkn, HBE.out⟩
                  case measure => simp [intOf] <;> omega
                | true =>
                  cases r6 with
                  | false =>
                    go_wp2_with fail
                    go_roundw
                    case rel => exact ⟨k + 1, by go_num, hkn, HBE.out⟩
                    case measure => simp [intOf] <;> omega
                  | true =>
                    obtain ⟨f1, f2⟩ := HTI.out rfl rfl rfl rfl
                    have F1 := Lib.hid f1
                    have F2 := Lib.hid f2
                    clear f1 f2
                    by_cases u1 : q3 < r2
                    · have v1 : ¬ r9 ≤ q9 := fun hh => F1.out ⟨u1, hh⟩
                      have v1' : q9 < r9 := by omega
                      have v2 : ¬ r3 < q2 := fun hh => F2.out ⟨hh, by omega⟩
                      go_wp2_with fail
                      go_roundw
                      case rel => exact ⟨k + 1, by go_num, hkn, HBE.out⟩
                      case measure => simp [intOf] <;> omega
                    · by_cases u2 : r3 < q2
                      · have v2 : ¬ q9 < r9 := fun hh => F2.out ⟨u2, hh⟩
                        go_wp2_with fail
                        go_roundw
                        case rel => exact ⟨k + 1, by go_num, hkn, HBE.out⟩
                        case measure => simp [intOf] <;> omega
                      · go_wp2_with fail
                        go_roundw
                        case rel => exact ⟨k + 1, by go_num, hkn, HBE.out⟩
                        case measure => simp [intOf] <;> omega
              · have t2' : (r4 == 2) = false := by simpa using t2
                go_wp2_with fail
                go_roundw
                case rel => exact ⟨k + 1, by go_num, hkn, HBE.out⟩
                case measure => simp [intOf] <;> omega
            · have t1' : (q4 == 1) = false := by simpa using t1
              go_wp2_with fail
              go_roundw
              case rel => exact ⟨k + 1, by go_num, hkn, HBE.out⟩
              case measure => simp [intOf] <;> omega
          · have hki : ¬ (k : Int) < (n : Int) := by omega
            go_wp2_with fail
            go_roundw
            case rel => exact ⟨i + 1, by go_num, hin, HBK.out⟩
            case measure => simp [intOf] <;> omega
      · have hii : ¬ (i : Int) < (n : Int) := by omega
        go_wp2_with (first
          | (go_at_call 10; refine (knows_any _).mono ?_; rintro e w3 ⟨rfl, hb3⟩; have HB3 := Lib.hid (below_step HB.out HB.out.size hb3); clear hb3)
          | fail)
        go_ret
        exact ⟨rfl, HB3.out⟩
  · have hle' : (le == 0) = false := by simpa using hle
    go_wp2_with (first
      | (go_at_call 23; refine (num_any _ _).mono ?_; rintro e w3 ⟨rfl, rfl⟩)
      | (go_at_call 10; refine (knows_any _).mono ?_; rintro e w3 ⟨rfl, hb3⟩; have HB3 := Lib.hid (below_step HB2.out HB2.out.size hb3); clear hb3)
      | fail)
    go_ret
    exact ⟨rfl, HB3.out⟩
end Go.Proofs.Ytbnbeailbhnbdaa
