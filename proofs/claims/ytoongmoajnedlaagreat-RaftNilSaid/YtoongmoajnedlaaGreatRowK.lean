/-
  For the rows: a function that answers true and leaves what was there keeps every argument's reading; a row of bytes, opened.
-/
import Derived.Test.YtoongmoajnedlaaGreatRet
import Derived.Test.YtoongmoajnedlaaGreatOpen
import Derived.Test.YtoongmoajnedlaaGreatRows
import Derived.ProofKit
import Derived.OpenShut
import Derived.SizedLaws
set_option linter.unusedVariables false
set_option linter.unusedSimpArgs false
namespace Go.Proofs.YtoongmoajnedlaaGreat
open Go.ChangeShapes Go.WideShapes Go.ChangeAt Go.RowKit

theorem own : ownKnob Tryz.prog.godebug = none := by kernel_rfl
theorem laidOut : laidOutB Tryz.prog = true := by kernel_rfl

/-- Every argument reads as it did. -/
theorem trodAll_stay {H : Type} {enc : TypeId × Value → H} {P : Program} (hl : laidOutB P = true) {W W' : World} (hb : Below W.heap.size W W') {sp : Nat → Bool} :
    ∀ {ts : List TypeId} {vs : List Value} {ds : List (DataW H)} {ps : List MemPlace}, (ts.all fun t => P.readableRec t && decide (t < P.types.size)) = true → DataW.TrodAll enc P W 0 (fun _ => true) true ts vs ds ps →
    (∀ x ∈ ps, x.block < W.heap.size) → (∀ x ∈ ps, sp x.block = true) → DataW.TrodAll enc P W' 0 sp true ts vs ds ps
  | [], _, _, _, _, h, _, _ => by
    obtain ⟨rfl, rfl, rfl⟩ := trodAll_nil h
    exact trodAll_mk0
  | t :: ts, vs, ds, ps, ht, h, hlt, hsp => by
    obtain ⟨v, vs', d, ds', p, q, rfl, rfl, rfl, h1, h2⟩ := trodAll_cons h
    simp only [List.all_cons, Bool.and_eq_true, decide_eq_true_eq] at ht
    refine ⟨p, q, ?_, trodAll_stay hl hb (by simpa using ht.2) h2 (fun x hx => hlt x (by simp [hx])) (fun x hx => hsp x (by simp [hx])), rfl⟩
    exact WideElems.Trod_stays hl ht.1.1 ht.1.2 h1 (fun x hx => hb.same (hlt x (by simp [hx]))) (fun x hx => hsp x (by simp [hx]))

/-- The row's post, of a call that answers true and leaves what was there. -/
theorem post_true {H : Type} {enc : TypeId × Value → H} {P : Program} (hl : laidOutB P = true) {f : Func} {s : ChangeSpec} {tb : TypeId} (hr : f.resultTypes = #[tb]) (hb : P.underlying tb = some .bool)
    (hts : (f.params.toList.all fun t => P.readableRec t && decide (t < P.types.size)) = true) (hvars : s.vars = []) {W : World} {args : Array Value} {ds gs : List (DataW H)} {before : List MemPlace}
    (hW : DataW.Whole enc P f.params.toList s.vars false W args.toList ds gs before) (hs : gs = [] → s.fn H (ds ++ gs) = { results := [.lit (.bool true)], args := ds })
    {e : Ending} {W' : World} (h : RetBool W true e W') : ∃ v, e = .returned v ∧ s.post enc P f false true false false W args v W' := by
  obtain ⟨he, hbw⟩ := h
  subst he
  have hW' := hW
  obtain ⟨p, q, hA, hV, rfl, hfz, hnd⟩ := hW
  rw [hvars] at hV
  obtain ⟨rfl, rfl⟩ := trodVars_none hV
  have hfn := hs rfl
  have hlt : ∀ x ∈ p, x.block < W.heap.size := fun x hx => hW'.lt x (by simp [hx])
  have hk := hbw.frame (fun x => x ∈ p ++ [])
  have hres : ∀ (b : Nat) (sp : Nat → Bool) (hd : Bool), DataW.TrodAll enc P W' b sp hd f.resultTypes.toList ((Value.bool true).resultList f.resultTypes.size) (s.fn H (ds ++ [])).results [] := by
    intro b sp hd
    rw [hfn, hr]
    exact trodAll_mk1 (shut_bool hb _)
  have hargs : ∀ sp : Nat → Bool, (∀ x ∈ p, sp x.block = true) → DataW.TrodAll enc P W' 0 sp true f.params.toList args.toList (s.fn H (ds ++ [])).args p := by
    intro sp hsp
    rw [hfn]
    exact trodAll_stay hl hbw hts hA hlt hsp
  have hvs : ∀ sp : Nat → Bool, DataW.TrodVars enc P W' sp s.vars (s.fn H (ds ++ [])).vars [] := by
    intro sp
    rw [hfn, hvars]
    rfl
  refine ⟨_, rfl, ds, [], p ++ [], [], p, [], hW', hres _ _ _, hargs _ (fun x hx => by simpa using hlt x hx), hvs _, World.keptBut_mono (fun x hx => ⟨hx, Or.inr (by simpa using hx)⟩) hk, fun _ => ?_⟩
  refine ⟨ok_one hr rfl (okWide_bool_mk hb _), _, _, ([] ++ p) ++ [], ⟨[] ++ p, [], trodAll_append (hargs _ (fun _ _ => rfl)) (hres _ _ _), hvs _, rfl, ?_, ?_⟩, ?_⟩
  · intro b off hp
    have hp' : MemPlace.cell b off ∈ p := by simpa using hp
    rw [hbw.frozen (p := ⟨b, off, none⟩) (hlt _ hp')]
    exact hfz b off (by simpa using hp')
  · intro ha
    cases ha
  · intro x hx _
    simpa using hx

/-- A slice argument. -/
theorem reach_of {H : Type} {P : Program} {ts : List TypeId} {ds : List (DataW H)} (h : (DataW.weightsEach P ts ds).all (· ≤ reachBytes) = true) {j : Nat} {t : TypeId} {d : DataW H} (ht : ts[j]? = some t) (hd : ds[j]? = some d) : ∀ n ∈ d.weights P t, n ≤ 140737488351232 := fun n hn => by
  have := List.all_eq_true.1 h _ (DataW.weights_mem_each ht hd n hn)
  have e : reachBytes = 140737488351232 := rfl
  simp at this
  omega
/-- Bytes that were handed in. -/
def BytesR (W : World) (bs : List UInt8) (cs : List Value) : Prop := ∃ A c, cs = [.slice A bs.length c] ∧ bs.length ≤ c ∧ c ≤ maxLen ∧ Sees W A (u8s bs)
theorem opens_bytes {H : Type} {P : Program} {enc : TypeId × Value → H} {W : World} {sp : Nat → Bool} {t e : TypeId} (ht : P.underlying t = some (.slice e)) (he : P.underlying e = some (.int .u8)) (hc : P.cellsOf e = 1) (hk : P.bytesOf e = 1) :
    Opens P enc W sp t (BytesR W) (fun m bs => bs.length ≤ m) :=
  opens_mono (opens_slice 1 1 ht hc (by decide) hk (fun y cs h => by rw [h]; rfl) (opens_byte he)) (fun ys cs ⟨A, c, cells, h1, h2, h3, h4, h5⟩ => ⟨A, c, h1, h2, h3, by rw [← bytes_of h5]; exact h4⟩) (fun m ys h => by have := h.1; omega)
/-- Cells of one each. -/
theorem ones_of {α : Type} {W : World} {f : α → Value} {ys : List α} {cells : List Value} (h : Recs (fun _ (b : α) cs => cs = [f b]) 1 W ys cells) : cells = ys.map f := by
  obtain ⟨css, rfl, h2, h3⟩ := h
  have : css = ys.map fun b => [f b] := by
    refine List.ext_getElem? fun i => ?_
    by_cases hi : i < css.length
    · have h4 := (h3 i _ _ (List.getElem?_eq_getElem (by omega)) (List.getElem?_eq_getElem hi)).2
      rw [List.getElem?_eq_getElem hi, h4, List.getElem?_map, List.getElem?_eq_getElem (by omega)]
      rfl
    · rw [List.getElem?_eq_none (by omega), List.getElem?_eq_none (by simp; omega)]
  rw [this]
  clear this h2 h3
  induction ys <;> simp_all
/-- A row of bools, of whole numbers. -/
theorem opens_bools {H : Type} {P : Program} {enc : TypeId × Value → H} {W : World} {sp : Nat → Bool} {t e : TypeId} (ht : P.underlying t = some (.slice e)) (he : P.underlying e = some .bool) (hc : P.cellsOf e = 1) (hk : P.bytesOf e = 1) :
    Opens P enc W sp t (fun (bs : List Bool) cs => ∃ A c, cs = [.slice A bs.length c] ∧ bs.length ≤ c ∧ c ≤ maxLen ∧ Sees W A (bs.map Value.bool)) (fun m bs => bs.length ≤ m) :=
  opens_mono (opens_slice 1 1 ht hc (by decide) hk (fun y cs h => by rw [h]; rfl) (opens_bool he)) (fun ys cs ⟨A, c, cells, h1, h2, h3, h4, h5⟩ => ⟨A, c, h1, h2, h3, by rw [← ones_of h5]; exact h4⟩) (fun m ys h => by have := h.1; omega)
def i64v (i : Int) : Value := .int .i64 i
def IntOk (i : Int) : Prop := -9223372036854775808 ≤ i ∧ i ≤ 9223372036854775807
theorem intOk_of {i : Int} (h : (Lit.int .i64 i).wf = true) : IntOk i := by
  simp [Lit.wf, IntKind.min, IntKind.max, IntKind.signed, IntKind.bits] at h
  exact h
theorem opens_ints {H : Type} {P : Program} {enc : TypeId × Value → H} {W : World} {sp : Nat → Bool} {t e : TypeId} (ht : P.underlying t = some (.slice e)) (he : P.underlying e = some (.int .i64)) (hc : P.cellsOf e = 1) (hk : P.bytesOf e = 8) :
    Opens P enc W sp t (fun (is : List Int) cs => (∃ A c, cs = [.slice A is.length c] ∧ is.length ≤ c ∧ c ≤ maxLen ∧ Sees W A (is.map i64v)) ∧ ∀ i ∈ is, IntOk i) (fun m is => is.length * 8 ≤ m) :=
  opens_mono (opens_slice 1 8 ht hc (by decide) hk (fun y cs h => by rw [h.1]; rfl) (opens_int .i64 he)) (fun ys cs ⟨A, c, cells, h1, h2, h3, h4, h5⟩ => ⟨⟨A, c, h1, h2, h3, by rw [← ones_of (W := W) (f := i64v) (h5.imp (fun j x cs _ h => h.1))]; exact h4⟩, fun i hi => by
    obtain ⟨j, hj, rfl⟩ := List.getElem_of_mem hi
    obtain ⟨cs, _, hr, _⟩ := h5.get (List.getElem?_eq_getElem hj)
    exact intOk_of hr.2⟩) (fun m ys h => h.1)
end Go.Proofs.YtoongmoajnedlaaGreat
