/-
  For the rows: a function that answers true and leaves what was there keeps every argument's reading; a row of bytes, opened.
-/
import Derived.Test.YtfbcdlbcdaobcaaBytes
import Derived.Test.YtfbcdlbcdaobcaaRows
import Derived.ProofKit
import Derived.OpenShut
import Derived.SizedLaws
set_option linter.unusedVariables false
set_option linter.unusedSimpArgs false
namespace Go.Proofs.Ytfbcdlbcdaobcaa
open Go.ChangeShapes Go.WideShapes Go.ChangeAt Go.RowKit

theorem own : ownKnob Try.prog.godebug = none := by kernel_rfl
theorem laidOut : laidOutB Try.prog = true := by kernel_rfl

/-- Every argument reads as it did. -/
theorem trodAll_stay {H : Type} {enc : TypeId × Value → H} {P : Program} (hl : laidOutB P = true) {W W' : World} (hb : Below W.heap.size W W') {sp : Nat → Bool} :
    ∀ {ts : List TypeId} {vs : List Value} {ds : List (DataW H)} {ps : List MemPlace}, (ts.all fun t => P.readableRec t && decide (t < P.types.size)) = true → DataW.TrodAll enc P W 0 (fun _ => true) true ts vs ds ps →
    (∀ x ∈ ps, x.block < W.heap.size) → (∀ x ∈ ps, sp x.block = true) → DataW.TrodAll enc P W' 0 sp true ts vs ds ps
  | [], _, _, _, _, h, _, _ => by
    obtain ⟨rfl, rfl, rfl⟩ := trodAll_nil h
    exact trodAll_mk0
  | t :: ts, vs, ds, ps, ht, h, hlt, hsp => by
    obtain ⟨v, vs', d, ds', p, q, rfl, rfl, rfl, h1, h2⟩ := trodAll_cons h
    simp only [List.all_cons, Bool.and_eq_true, decide_eq_true_eq] at ht
    refine ⟨p, q, ?_, trodAll_stay hl hb (by simpa using ht.2) h2 (fun x hx => hlt x (by simp [hx])) (fun x hx => hsp x (by simp [hx])), rfl⟩
    exact WideElems.Trod_stays hl ht.1.1 ht.1.2 h1 (fun x hx => hb.same (hlt x (by simp [hx]))) (fun x hx => hsp x (by simp [hx]))

/-- The row's post, of a call that answers true and leaves what was there. -/
theorem post_true {H : Type} {enc : TypeId × Value → H} {P : Program} (hl : laidOutB P = true) {f : Func} {s : ChangeSpec} {tb : TypeId} (hr : f.resultTypes = #[tb]) (hb : P.underlying tb = some .bool)
    (hts : (f.params.toList.all fun t => P.readableRec t && decide (t < P.types.size)) = true) (hvars : s.vars = []) {W : World} {args : Array Value} {ds gs : List (DataW H)} {before : List MemPlace}
    (hW : DataW.Whole enc P f.params.toList s.vars false W args.toList ds gs before) (hs : gs = [] → s.fn H (ds ++ gs) = { results := [.lit (.bool true)], args := ds })
    {e : Ending} {W' : World} (h : RetBool W true e W') : ∃ v, e = .returned v ∧ s.post enc P f false true false false W args v W' := by
  obtain ⟨he, hbw⟩ := h
  subst he
  have hW' := hW
  obtain ⟨p, q, hA, hV, rfl, hfz, hnd⟩ := hW
  rw [hvars] at hV
  obtain ⟨rfl, rfl⟩ := trodVars_none hV
  have hfn := hs rfl
  have hlt : ∀ x ∈ p, x.block < W.heap.size := fun x hx => hW'.lt x (by simp [hx])
  have hk := hbw.frame (fun x => x ∈ p ++ [])
  have hres : ∀ (b : Nat) (sp : Nat → Bool) (hd : Bool), DataW.TrodAll enc P W' b sp hd f.resultTypes.toList ((Value.bool true).resultList f.resultTypes.size) (s.fn H (ds ++ [])).results [] := by
    intro b sp hd
    rw [hfn, hr]
    exact trodAll_mk1 (shut_bool hb _)
  have hargs : ∀ sp : Nat → Bool, (∀ x ∈ p, sp x.block = true) → DataW.TrodAll enc P W' 0 sp true f.params.toList args.toList (s.fn H (ds ++ [])).args p := by
    intro sp hsp
    rw [hfn]
    exact trodAll_stay hl hbw hts hA hlt hsp
  have hvs : ∀ sp : Nat → Bool, DataW.TrodVars enc P W' sp s.vars (s.fn H (ds ++ [])).vars [] := by
    intro sp
    rw [hfn, hvars]
    rfl
  refine ⟨_, rfl, ds, [], p ++ [], [], p, [], hW', hres _ _ _, hargs _ (fun x hx => by simpa using hlt x hx), hvs _, World.keptBut_mono (fun x hx => ⟨hx, Or.inr (by simpa using hx)⟩) hk, fun _ => ?_⟩
  refine ⟨ok_one hr rfl (okWide_bool_mk hb _), _, _, ([] ++ p) ++ [], ⟨[] ++ p, [], trodAll_append (hargs _ (fun _ _ => rfl)) (hres _ _ _), hvs _, rfl, ?_, ?_⟩, ?_⟩
  · intro b off hp
    have hp' : MemPlace.cell b off ∈ p := by simpa using hp
    rw [hbw.frozen (p := ⟨b, off, none⟩) (hlt _ hp')]
    exact hfz b off (by simpa using hp')
  · intro ha
    cases ha
  · intro x hx _
    simpa using hx

/-- An argument of type []uint8: a row of bytes, seen. -/
theorem open_u8s {H : Type} {enc : TypeId × Value → H} {P : Program} {t e : TypeId} (ht : P.underlying t = some (.slice e)) (he : P.underlying e = some (.int .u8)) (hc : P.cellsOf e = 1) {W : World} {r : Reach} {b0 : Nat} {v : Value} {d : DataW H} {ps : List MemPlace} {sp : Nat → Bool}
    (hval : Value.okWide P W r b0 t v) (hd : DataW.Trod enc P W 0 sp true t v d ps) :
    ∃ A bs c, v = .slice A bs.length c ∧ bs.length ≤ c ∧ c ≤ maxLen ∧ Sees W A (u8s bs) ∧ (∀ es rest, d = .slice es rest → bs.length ≤ es.length) ∧ (d = .nil → bs.length = 0) ∧ ((∃ es rest, d = .slice es rest) ∨ d = .nil) := by
  obtain ⟨a0, len, cap, rfl⟩ := okWide_slice ht hval
  obtain ⟨fuel, hf⟩ := hd
  rcases open_ints ht he hc hf with ⟨h1, h2⟩ | ⟨a, len', cap', zs, h1, _, hl, hm, hz, hx, hcell, hwf⟩
  · simp [Value.cells] at h1
    obtain ⟨rfl, rfl, rfl⟩ := h1
    simp only [Prod.mk.injEq] at h2
    refine ⟨none, [], 0, rfl, Nat.le_refl _, Nat.zero_le _, Sees.nil _ _, ?_, fun _ => rfl, Or.inr h2.1⟩
    intro es rest h
    simp
  · simp [Value.cells] at h1
    obtain ⟨rfl, rfl, rfl⟩ := h1
    simp only [Prod.mk.injEq] at hx
    have hlz : len ≤ zs.length := by rw [hz]; split <;> omega
    refine ⟨some a, (zs.take len).map (fun z => UInt8.ofNat z.toNat), cap, ?_, ?_, hm, ?_, ?_, ?_, Or.inl ⟨_, _, hx.1⟩⟩
    · simp [Nat.min_eq_left hlz]
    · simp [Nat.min_eq_left hlz, hl]
    · intro j v hj
      refine ⟨a, rfl, ?_⟩
      simp only [u8s, u8v, List.getElem?_map, Option.map_eq_some_iff, List.map_map] at hj
      obtain ⟨z, hz1, rfl⟩ := hj
      obtain ⟨hj1, hj2⟩ := List.getElem?_eq_some_iff.1 hz1
      simp at hj1
      rw [hcell j (by omega)]
      simp at hj2
      have hw := hwf zs[j] (List.getElem_mem _)
      simp [Lit.wf, IntKind.min, IntKind.max, IntKind.signed, IntKind.bits] at hw
      have : zs.getD j 0 = zs[j] := by simp [List.getD, show j < zs.length by omega]
      rw [this, ← hj2]
      have h0 : ((UInt8.ofNat zs[j].toNat).toNat : Int) = zs[j] := by
        rw [UInt8.toNat_ofNat', Nat.mod_eq_of_lt (by omega)]
        omega
      simp only [Function.comp_apply, u8v, h0]
    · intro es rest h
      rw [hx.1] at h
      cases h
      simp [lits]
    · intro h
      rw [hx.1] at h
      cases h
/-- The form's own reach, at a row of bytes. -/
theorem reach_u8s {H : Type} {P : Program} {ts : List TypeId} {ds : List (DataW H)} (h : (DataW.weightsEach P ts ds).all (· ≤ reachBytes) = true) {j : Nat} {t e : TypeId} {d : DataW H} {n : Nat} (ht : ts[j]? = some t) (hd : ds[j]? = some d)
    (hu : P.underlying t = some (.slice e)) (hb : P.bytesOf e = 1) (h1 : ∀ es rest, d = .slice es rest → n ≤ es.length) (h2 : d = .nil → n = 0) (h3 : (∃ es rest, d = .slice es rest) ∨ d = .nil) : n ≤ 140737488351232 := by
  rcases h3 with ⟨es, rest, rfl⟩ | rfl
  · have h4 := sized_slice h ht hd hu
    rw [hb, Nat.mul_one] at h4
    have h5 := h1 es rest rfl
    have : reachBytes = 140737488351232 := rfl
    omega
  · rw [h2 rfl]; exact Nat.zero_le _
end Go.Proofs.Ytfbcdlbcdaobcaa
