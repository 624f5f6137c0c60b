/-
  Package entries: rows of entries, told as lists; row and Right of the program.
-/
import Derived.Test.YtoongmoajnedlaaGreatEntry
import Derived.Test.YtoongmoajnedlaaGreatRowK
import Derived.Deep.MidRow
set_option linter.unusedVariables false
set_option linter.unusedSimpArgs false
namespace Go.Proofs.YtoongmoajnedlaaGreat
open Go.RowKit

def Ent.cells (x : Ent) (d : Value) : List Value := [.int .i64 x.term, .int .i64 x.index, .int .i64 x.kind, d]
theorem Ent.val_eq (x : Ent) (d : Value) : x.val d = .agg (x.cells d).toArray := rfl
def EntR (W : World) (x : Ent) (cs : List Value) : Prop := ∃ A c, cs = x.cells (.slice A x.data.length c) ∧ x.data.length ≤ c ∧ Sees W A (u8s x.data)
/-- Entries that are seen. -/
def SeenE (W : World) (A : Option Addr) (es : List Ent) : Prop := ∃ cells, Sees W A cells ∧ Recs EntR 4 W es cells
def SmallE (es : List Ent) : Prop := ∀ x ∈ es, x.data.length ≤ 140737488351232
theorem EntR.below {W W' : World} {x : Ent} {cs : List Value} (h : EntR W x cs) (hb : Below W.heap.size W W') : EntR W' x cs := by
  obtain ⟨A, c, e, h1, h2⟩ := h
  exact ⟨A, c, e, h1, h2.below hb⟩
theorem SeenE.below {W W' : World} {A : Option Addr} {es : List Ent} (h : SeenE W A es) (hb : Below W.heap.size W W') : SeenE W' A es := by
  obtain ⟨cells, h1, h2⟩ := h
  obtain ⟨css, h3, h4, h5⟩ := h2
  exact ⟨cells, h1.below hb, css, h3, h4, fun j x cs hx hc => ⟨(h5 j x cs hx hc).1, (h5 j x cs hx hc).2.below hb⟩⟩
theorem SeenE.at {W : World} {A : Option Addr} {es : List Ent} (h : SeenE W A es) {k : Nat} {x : Ent} (hk : es[k]? = some x) : ∃ ad A1 c1, A = some ad ∧ (∀ j v, (x.cells (.slice A1 x.data.length c1))[j]? = some v → W.cell? ((ad.add (k * 4)).add j) = some v) ∧ x.data.length ≤ c1 ∧ Sees W A1 (u8s x.data) := by
  obtain ⟨cells, h1, h2⟩ := h
  obtain ⟨cs, _, ⟨A1, c1, rfl, h3, h4⟩, hcs⟩ := h2.get hk
  obtain ⟨ad, ea, hc0⟩ := h1 (k * 4) _ (hcs 0 _ rfl)
  refine ⟨ad, A1, c1, ea, fun j v hj => ?_, h3, h4⟩
  obtain ⟨ad', e', hc⟩ := h1 (k * 4 + j) v (hcs j v hj)
  rw [ea] at e'
  cases e'
  rw [add_at]
  exact hc
theorem SeenE.nil (W : World) (A : Option Addr) : SeenE W A [] := ⟨[], Sees.nil _ _, Recs.nil⟩
theorem there_of_block {w : World} {b : Nat} {cs : Array Value} {t : TypeId} (h : w.heap[b]? = some (.cells cs t (0, 0))) (n : Nat) (hn : n = cs.size) : w.there b 0 n := fun j hj => by
  subst hn
  constructor
  · rw [cell_of_row w b (0 + j) _ _ _ h]
    simp
    omega
  · simp [World.frozen?, h]
theorem below_cells {B b : Nat} {a : World} (hb : B ≤ b) : ∀ (vs : List Value) (o : Nat) (w : World), Below B a w → Below B a (w.setCells b o vs)
  | [], _, _, h => h
  | v :: r, o, w, h => below_cells hb r (o + 1) _ (h.setCell (p := ⟨b, o, none⟩) hb v)
theorem wpList_load_far {P : Program} {ops : Array Oper} {rest : List Oper} {op : Oper} {a : Act} {w : World} {Q : Exit → Act → World → Prop} (hgd : op.guard = none) (ty : TypeId) (x : Operand) (ho : op.op = .load ty x)
    (p : Addr) (hx : a.eval x = .pointer (some p)) (cs : List Value) (d : TypeDesc) (hc : ∀ j v, cs[j]? = some v → w.cell? (p.add j) = some v)
    (hu : P.underlying ty = some d) (hd : d.isRow = true) (hi : (P.info? ty).map (·.size) = some cs.length)
    (h : wpList P ops Q rest (a.put op.dst (.agg cs.toArray)) w) : wpList P ops Q (op :: rest) a w :=
  wpList_plain hgd fun _ hK => by
    have hl : (loadCells p cs.length).run P w = .ok cs.toArray w := run_loadCells_list (P := P) w p cs hc
    have hr : (loadVar ty p).run P w = .ok (.agg cs.toArray) w := by
      cases hq : P.info? ty with
      | none => simp [hq] at hi
      | some i =>
        have hs : i.size = cs.length := by simpa [hq] using hi
        have hagg : (isAgg ty).run P w = .ok true w := by
          unfold isAgg
          rw [Sem.run_bind, run_underlying hu w]
          cases d <;> simp_all
        simp [loadVar, Sem.run_bind, hagg, sizeOf, typeInfo, hq, hs, hl]
    unfold Oper.wp execOp
    simp only [ho, hx, Instr.loadAt, Instr.sureAddr, Sem.run_bind, Sem.run_pure, Result.andThen_ok, hr]
    exact hK _ _ h
def zeros4 : Array Value := #[.int .i64 0, .int .i64 0, .int .i64 0, .slice none 0 0]
theorem there_one4 (w : World) : (w.alloc (.cells zeros4 110)).there w.heap.size 0 4 :=
  there_of_block (cs := zeros4) (t := 110) (by show (w.heap.push _)[w.heap.size]? = _; simp) 4 rfl
/-- An entry in a new box. -/
theorem box_ent (x : Ent) (d : Value) (w : World) : ∃ W, (w.alloc (.cells zeros4 110)).setCells w.heap.size 0 (x.cells d) = W ∧ Below w.heap.size w W ∧ w.heap.size < W.heap.size ∧ ∀ j v, (x.cells d)[j]? = some v → W.cell? ⟨w.heap.size, j, none⟩ = some v := by
  refine ⟨_, rfl, below_cells (Nat.le_refl _) _ _ _ ((Below.refl _ _).alloc (Nat.le_refl _) _), ?_, fun j v hj => ?_⟩
  · exact Nat.lt_of_lt_of_le (by simp) (below_cells (Nat.zero_le _) (x.cells d) 0 _ (Below.refl 0 _)).size
  · have h9 := World.rangeAt_setCells_same (w.alloc (.cells zeros4 110)) w.heap.size 0 (x.cells d) (there_one4 w) j v hj
    rw [Nat.zero_add] at h9
    exact h9
theorem ent_ones (x : Ent) (A : Option Addr) (n c : Nat) : ((x.cells (.slice A n c)).toArray).all (·.oneCell') = true := by simp [Ent.cells, Value.oneCell']
/-- Do entries go on by one from an index, with terms that do not fall? -/
noncomputable def rowB : Int → Int → List Ent → Bool
  | _, _, [] => true
  | i, t, x :: r => rightE x && (x.index == i + 1) && decide (t ≤ x.term) && rowB (i + 1) x.term r
theorem rowB_bad {i t : Int} {x : Ent} {r : List Ent} (h : rightE x = false ∨ x.index ≠ i + 1 ∨ x.term < t) : rowB i t (x :: r) = false := by
  simp only [rowB]
  rcases h with h | h | h
  · rw [h]; rfl
  · have : (x.index == i + 1) = false := by simpa using h
    rw [this]; simp
  · have : decide (t ≤ x.term) = false := by simpa using h
    rw [this]; simp
theorem rowB_good {i t : Int} {x : Ent} {r : List Ent} (h1 : rightE x = true) (h2 : x.index = i + 1) (h3 : t ≤ x.term) : rowB i t (x :: r) = rowB x.index x.term r := by
  simp only [rowB]
  rw [h1, h2, decide_eq_true h3]
  simp
set_option maxRecDepth 16384 in
set_option maxHeartbeats 8000000 in
theorem row_any (i t : Int) (A : Option Addr) (es : List Ent) (n c : Nat) (w : World) (hi : IntOk i) (hn : es.length = n) (hn2 : n ≤ 140737488355328) (h : SeenE w A es) (hs : SmallE es) :
    Calls Tryz.prog 76 #[.int .i64 i, .int .i64 t, .slice A n c] w (RetBool w (rowB i t es)) := by
  have H := Lib.hid h
  have HN := Lib.hid hn
  have HS := Lib.hid hs
  have HST : Hid (∃ (k : Nat) (ik tk : Int), Value.int .i64 0 = .int .i64 (k : Int) ∧ Value.int .i64 i = .int .i64 ik ∧ Value.int .i64 t = .int .i64 tk ∧ k ≤ n ∧ IntOk ik ∧ rowB i t es = rowB ik tk (es.drop k) ∧ Below w.heap.size w w) := Lib.hid ⟨0, i, t, rfl, rfl, rfl, Nat.zero_le _, hi, by rw [List.drop_zero], Below.refl _ _⟩
  clear h hn hs hi
  go_enter Tryz.func76, Tryz.ntmps76
  go_wp2_with fail
  go_loopw [0, 1, 13] (fun s0 s1 s13 wr => ∃ (k : Nat) (ik tk : Int), s13 = .int .i64 (k : Int) ∧ s0 = .int .i64 ik ∧ s1 = .int .i64 tk ∧ k ≤ n ∧ IntOk ik ∧ rowB i t es = rowB ik tk (es.drop k) ∧ Below w.heap.size w wr) (fun _ _ s13 _ => n - (intOf s13).toNat)
  case atStart => exact HST.out
  case round =>
    obtain ⟨k, ik, tk, rfl, rfl, rfl, hk, hio, hrb, hb⟩ := hrel
    have HIO := Lib.hid hio
    have HRB := Lib.hid hrb
    have HB := Lib.hid hb
    clear HST hio hrb hb
    by_cases hlt : k < n
    · have hki : (k : Int) < (n : Int) := by omega
      have hkl : k < es.length := by rw [HN.out]; exact hlt
      obtain ⟨x, hx⟩ : ∃ x, es[k] = x := ⟨_, rfl⟩
      have hget : es[k]? = some x := by rw [List.getElem?_eq_getElem hkl, hx]
      have HDR : Hid (es.drop k = x :: es.drop (k + 1)) := Lib.hid (by rw [List.drop_eq_getElem_cons hkl, hx])
      obtain ⟨ad, A1, c1, rfl, hcs, hc1, hsd⟩ := (H.out.below HB.out).at hget
      have hsm := HS.out x (by rw [← hx]; exact List.getElem_mem hkl)
      obtain ⟨q, hq⟩ : ∃ q, x.data.length = q := ⟨_, rfl⟩
      rw [hq] at hcs hc1 hsm
      obtain ⟨W, hW, hbW, hzW, hcW⟩ := box_ent x (.slice A1 q c1) wr
      obtain ⟨bx, hbx⟩ : ∃ bx, wr.heap.size = bx := ⟨_, rfl⟩
      rw [hbx] at hcW
      have HPE := Lib.hid (putentry_any x A1 q c1 W hq hc1 (by omega) (hsd.below hbW))
      rw [Ent.val_eq] at HPE
      have HBW := Lib.hid (below_step HB.out HB.out.size hbW)
      have y0 : ∀ W', Below W.heap.size W W' → W'.cell? ⟨bx, 0, none⟩ = some (.int .i64 x.term) ∧ W'.cell? ⟨bx, 1, none⟩ = some (.int .i64 x.index) := fun W' hb' => by
        have a0 := hcW 0 _ rfl
        have a1 := hcW 1 _ rfl
        exact ⟨(hb'.cell (World.block_lt_of_cell? _ _ a0)).trans a0, (hb'.cell (World.block_lt_of_cell? _ _ a1)).trans a1⟩
      have z0 : W.cell? ⟨bx, 0, none⟩ = some (.int .i64 x.term) := hcW 0 _ rfl
      have z1 : W.cell? ⟨bx, 1, none⟩ = some (.int .i64 x.index) := hcW 1 _ rfl
      have z2 : W.cell? ⟨bx, 2, none⟩ = some (.int .i64 x.kind) := hcW 2 _ rfl
      have z3 : W.cell? ⟨bx, 3, none⟩ = some (.slice A1 q c1) := hcW 3 _ rfl
      have HY := Lib.hid y0
      have HCS := Lib.hid hcs
      have HW := Lib.hid hW
      have HBX := Lib.hid hbx
      obtain ⟨iw, hiw⟩ : ∃ iw, IntKind.i64.wrap (ik + 1) = iw := ⟨_, rfl⟩
      have HIW : Hid (rightE x = true → (x.index = iw ↔ x.index = ik + 1)) := Lib.hid (fun hr => by
        obtain ⟨_, _, i1, i2, _, _⟩ := rightE_num hr
        have hio := HIO.out
        unfold IntOk at hio
        by_cases ho : ik + 1 ≤ 9223372036854775807
        · rw [← hiw, IntWalk.i64_in _ (by omega)]
        · have e : ik + 1 = 9223372036854775808 := by omega
          rw [← hiw, e]
          have : IntKind.i64.wrap 9223372036854775808 = -9223372036854775808 := by decide
          rw [this]
          omega)
      clear hcs hW hbW hzW hcW hsd hx hget hkl hq y0 hbx
      go_upto_region 4 with (first
        | (refine wpList_load_far rfl 110 _ rfl (ad.add (k * 4)) rfl (x.cells (.slice A1 q c1)) _ HCS.out Tryz.underlying110 rfl (by kernel_rfl) ?_)
        | (refine wpList_store_mid rfl 110 _ _ rfl wr.heap.size 0 (x.cells (.slice A1 q c1)).toArray rfl rfl (there_one4 wr) (by kernel_rfl) (ent_ones x A1 q c1) ?_)
        | fail)
      have hWW := HW.out
      unfold zeros4 at hWW
      rw [hWW, HBX.out]
      clear hWW
      unfold Ent.cells at HPE
      obtain ⟨rx, hrx⟩ : ∃ rx, rightE x = rx := ⟨_, rfl⟩
      have HRX := Lib.hid hrx
      go_upto_region 6 with (first
        | (go_at_call 104; refine HPE.out.mono ?_; rintro e w2 ⟨A2, n2, c2, er, rfl, her, hb2⟩; rw [hrx] at her; have HER := Lib.hid her; have HB2 := Lib.hid (below_step HBW.out HBW.out.size hb2); obtain ⟨v0, v1⟩ := HY.out w2 hb2; clear her hb2)
        | fail)
      clear z0 z1 z2 z3
      cases rx with
      | false =>
        have he : (er == 0) = false := HER.out
        have hne : ¬ er = 0 := by simpa using he
        have HF : Hid (rowB i t es = false) := Lib.hid (by rw [HRB.out, HDR.out]; exact rowB_bad (.inl HRX.out))
        clear hrx
        go_wp2_with fail
        go_ret
        exact ⟨by rw [HF.out]; rfl, HB2.out⟩
      | true =>
        obtain rfl : er = 0 := by simpa using HER.out
        obtain ⟨_, _, i1, i2, _, _⟩ := rightE_num hrx
        have HI12 := Lib.hid i1
        have HI22 := Lib.hid i2
        have HIX := Lib.hid (HIW.out hrx)
        obtain ⟨xt, hxt⟩ : ∃ xt, x.term = xt := ⟨_, rfl⟩
        obtain ⟨xi, hxi⟩ : ∃ xi, x.index = xi := ⟨_, rfl⟩
        rw [hxt] at v0
        rw [hxi] at v1
        have HXT := Lib.hid hxt
        have HXI := Lib.hid hxi
        clear hrx i1 i2 hxt hxi
        by_cases g1 : xi = iw
        · subst g1
          have HIK : Hid (x.index = ik + 1) := Lib.hid (HIX.out.1 HXI.out)
          by_cases g2 : xt < tk
          · have HF : Hid (rowB i t es = false) := Lib.hid (by rw [HRB.out, HDR.out]; exact rowB_bad (.inr (.inr (by rw [HXT.out]; exact g2))))
            go_wp2_with fail
            go_ret
            exact ⟨by rw [HF.out]; rfl, HB2.out⟩
          · have HNX : Hid (rowB i t es = rowB xi xt (es.drop (k + 1))) := Lib.hid (by rw [HRB.out, HDR.out, rowB_good HRX.out HIK.out (by rw [HXT.out]; omega), HXI.out, HXT.out])
            have HIO2 : Hid (IntOk xi) := Lib.hid (by unfold IntOk; have := HI12.out; have := HI22.out; have := HXI.out; omega)
            go_wp2_with fail
            go_roundw
            case rel => exact ⟨k + 1, xi, xt, by go_num, rfl, rfl, hlt, HIO2.out, HNX.out, HB2.out⟩
            case measure => simp [intOf] <;> omega
        · have g1' : (xi == iw) = false := by simpa using g1
          have HF : Hid (rowB i t es = false) := Lib.hid (by rw [HRB.out, HDR.out]; exact rowB_bad (.inr (.inl (fun h => g1 (by rw [← HXI.out]; exact HIX.out.2 h)))))
          go_wp2_with fail
          go_ret
          exact ⟨by rw [HF.out]; rfl, HB2.out⟩
    · have hki : ¬ (k : Int) < (n : Int) := by omega
      have HT : Hid (rowB i t es = true) := Lib.hid (by rw [HRB.out, List.drop_of_length_le (by rw [HN.out]; omega)]; rfl)
      go_wp2_with fail
      go_ret
      exact ⟨by rw [HT.out]; rfl, HB.out⟩
end Go.Proofs.YtoongmoajnedlaaGreat
