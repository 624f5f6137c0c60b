/-
  The program's First.
-/
import Derived.Test.YtlcnpfiiijehmaaEnt3
import Derived.Test.YtlcnpfiiijehmaaEOwn2
set_option linter.unusedVariables false
set_option linter.unusedSimpArgs false
namespace Go.Proofs.Ytlcnpfiiijehmaa
open Go.RowKit

noncomputable def firstL (term : Int) : List Ent → Int
  | [] => 0
  | x :: r => if x.term = term then x.index else firstL term r
noncomputable def firstV (v : Vw) (term : Int) : Int := if rightV v then firstL term v.l else 0
theorem firstL_step {l : List Ent} {k : Nat} {x : Ent} {t r : Int} (h : l[k]? = some x) (hk : firstL t l = firstL t (l.drop k)) : firstL t l = if x.term = t then x.index else firstL t (l.drop (k + 1)) := by
  obtain ⟨hl, rfl⟩ := List.getElem?_eq_some_iff.1 h
  rw [hk, List.drop_eq_getElem_cons hl]
  rfl
def RetInt (r : Int) (w : World) (e : Ending) (w' : World) : Prop := e = .returned (.int .i64 r) ∧ Below w.heap.size w w'
set_option maxRecDepth 16384 in
set_option maxHeartbeats 4000000 in
theorem first_any (v : Vw) (term : Int) (A : Option Addr) (n c : Nat) (w : World) (hn : v.l.length = n) (hn2 : n ≤ 140737488355328) (h : SeenE w A v.l) (hs : SmallE v.l) :
    Calls Try.prog 40 #[v.val (.slice A n c), .int .i64 term] w (RetInt (firstV v term) w) := by
  obtain ⟨W, hW⟩ : ∃ W, w.alloc (.cells #[.int .i64 v.base, .int .i64 v.term, .slice A n c] 26) = W := ⟨_, rfl⟩
  have hb : Below w.heap.size w W := by rw [← hW]; exact (Below.refl _ _).alloc (Nat.le_refl _) _
  have hrow : W.heap[w.heap.size]? = some (.cells #[.int .i64 v.base, .int .i64 v.term, .slice A n c] 26 (0, 0)) := by rw [← hW]; exact heap_alloc_new w _
  have HRT := Lib.hid (rightv_any v A n c W hn hn2 (h.below hb) hs)
  obtain ⟨r, hr⟩ : ∃ r, rightV v = r := ⟨_, rfl⟩
  rw [hr] at HRT
  have HW := Lib.hid hW
  have HB := Lib.hid hb
  have HRR := Lib.hid hr
  obtain ⟨gb, hgb⟩ : ∃ gb, w.heap.size = gb := ⟨_, rfl⟩
  rw [hgb] at hrow
  have HGB := Lib.hid hgb
  have H := Lib.hid h
  have HN := Lib.hid hn
  have HK : Hid (∀ W', Below W.heap.size W W' → W'.cell? ⟨gb, 0, none⟩ = some (.int .i64 v.base) ∧ W'.cell? ⟨gb, 1, none⟩ = some (.int .i64 v.term) ∧ W'.cell? ⟨gb, 2, none⟩ = some (.slice A n c)) := Lib.hid (fun W' hb' => by
    have h9 := (hb'.block gb (Array.getElem?_eq_some_iff.1 hrow).1).trans hrow
    exact ⟨by rw [cell_of_row _ _ 0 _ _ _ h9]; rfl, by rw [cell_of_row _ _ 1 _ _ _ h9]; rfl, by rw [cell_of_row _ _ 2 _ _ _ h9]; rfl⟩)
  obtain ⟨k0, k1, k2⟩ := HK.out W (Below.refl _ _)
  unfold Vw.val at HRT ⊢
  clear hW hb hrow h hn hs hr hgb
  go_enter Try.func40, Try.ntmps40
  go_upto_region 1 with fail
  rw [HW.out]
  try rw [HGB.out]
  cases r with
  | false =>
    have HF : Hid (firstV v term = 0) := Lib.hid (by unfold firstV; rw [HRR.out]; rfl)
    go_wp2_with (first
      | (go_at_call 24; refine HRT.out.mono ?_; rintro e w2 ⟨rfl, hb2⟩; have HL := Lib.hid hb2; clear hb2)
      | fail)
    go_ret
    exact ⟨by rw [HF.out]; rfl, below_step HB.out HB.out.size HL.out⟩
  | true =>
    have HF : Hid (firstV v term = firstL term v.l) := Lib.hid (by unfold firstV; rw [HRR.out, if_pos rfl])
    go_upto_region 3 with (first
      | (go_at_call 24; refine HRT.out.mono ?_; rintro e w2 ⟨rfl, hb2⟩; have HL := Lib.hid hb2; obtain ⟨c0, c1, c2⟩ := HK.out w2 hb2; clear hb2)
      | fail)
    have HB2 := Lib.hid (below_step HB.out HB.out.size HL.out)
    have HST : Hid (∃ k : Nat, Value.int .i64 0 = .int .i64 (k : Int) ∧ k ≤ n ∧ firstL term v.l = firstL term (v.l.drop k) ∧ Below w2.heap.size w2 w2) := Lib.hid ⟨0, rfl, Nat.zero_le _, by rw [List.drop_zero], Below.refl _ _⟩
    clear k0 k1 k2 c0 c1 c2
    go_loopw [12] (fun s12 wr => ∃ k : Nat, s12 = .int .i64 (k : Int) ∧ k ≤ n ∧ firstL term v.l = firstL term (v.l.drop k) ∧ Below w2.heap.size w2 wr) (fun s12 _ => n - (intOf s12).toNat)
    case atStart => exact HST.out
    case round =>
      obtain ⟨k, rfl, hk, hfk, hbk⟩ := hrel
      have HFK := Lib.hid hfk
      have HBK := Lib.hid (below_step HB2.out HB2.out.size hbk)
      have HBK2 := Lib.hid hbk
      clear HST hfk hbk
      by_cases hlt : k < n
      · have hki : (k : Int) < (n : Int) := by omega
        have hkl : k < v.l.length := by rw [HN.out]; exact hlt
        obtain ⟨x, hx⟩ : ∃ x, v.l[k] = x := ⟨_, rfl⟩
        have hget : v.l[k]? = some x := by rw [List.getElem?_eq_getElem hkl, hx]
        have HSTEP := Lib.hid (firstL_step (r := 0) hget HFK.out)
        obtain ⟨ad, A1, c1, rfl, hcs, hc1, hsd⟩ := (H.out.below HBK.out).at hget
        obtain ⟨q, hq⟩ : ∃ q, x.data.length = q := ⟨_, rfl⟩
        rw [hq] at hcs hc1
        obtain ⟨WB, hWB, hbW, hzW, hcW⟩ := box_ent x (.slice A1 q c1) wr
        obtain ⟨bx, hbx⟩ : ∃ bx, wr.heap.size = bx := ⟨_, rfl⟩
        rw [hbx] at hcW
        have HBW := Lib.hid (below_step HBK2.out HBK2.out.size hbW)
        have z0 : WB.cell? ⟨bx, 0, none⟩ = some (.int .i64 x.term) := hcW 0 _ rfl
        have z1 : WB.cell? ⟨bx, 1, none⟩ = some (.int .i64 x.index) := hcW 1 _ rfl
        have HCS := Lib.hid hcs
        have HWB := Lib.hid hWB
        have HBX := Lib.hid hbx
        clear hcs hWB hbW hzW hcW hsd hx hget hkl hq hbx
        go_upto_region 5 with (first
          | (refine wpList_load_far rfl 54 _ rfl (ad.add (k * 4)) rfl (x.cells (.slice A1 q c1)) _ HCS.out Try.underlying54 rfl (by kernel_rfl) ?_)
          | (refine wpList_store_mid rfl 54 _ _ rfl wr.heap.size 0 (x.cells (.slice A1 q c1)).toArray rfl rfl (there_one4 wr) (by kernel_rfl) (ent_ones x A1 q c1) ?_)
          | fail)
        have hWW := HWB.out
        unfold zeros4 at hWW
        rw [hWW, HBX.out]
        clear hWW
        by_cases g : x.term = term
        · have HR : Hid (firstL term v.l = x.index) := Lib.hid (by rw [HSTEP.out, if_pos g])
          go_wp2_with fail
          go_ret
          exact ⟨by rw [HF.out, HR.out]; rfl, below_step HB2.out HB2.out.size HBW.out⟩
        · have HR : Hid (firstL term v.l = firstL term (v.l.drop (k + 1))) := Lib.hid (by rw [HSTEP.out, if_neg g])
          have g' : (x.term == term) = false := by simpa using g
          go_wp2_with fail
          go_roundw
          case rel => exact ⟨k + 1, by go_num, hlt, HR.out, HBW.out⟩
          case measure => simp [intOf] <;> omega
      · obtain rfl : k = n := by omega
        have hki : ¬ (k : Int) < (k : Int) := by omega
        have HR : Hid (firstL term v.l = 0) := Lib.hid (by rw [HFK.out, List.drop_of_length_le (by rw [HN.out]; exact Nat.le_refl _)]; rfl)
        go_wp2_with fail
        go_ret
        exact ⟨by rw [HF.out, HR.out]; rfl, HBK.out⟩
end Go.Proofs.Ytlcnpfiiijehmaa
