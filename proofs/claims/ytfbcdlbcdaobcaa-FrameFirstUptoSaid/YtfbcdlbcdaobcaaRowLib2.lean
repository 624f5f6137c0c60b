/-
  For the rows: an argument that is a row of frames, opened.
-/
import Derived.Test.YtfbcdlbcdaobcaaRow
import Derived.Test.YtfbcdlbcdaobcaaRowLib
set_option linter.unusedVariables false
set_option linter.unusedSimpArgs false
namespace Go.Proofs.Ytfbcdlbcdaobcaa
open Go.ChangeShapes Go.WideShapes Go.ChangeAt Go.RowKit

section
variable {H : Type} {enc : TypeId × Value → H} {W : World} {sp : Nat → Bool}
theorem u8s_of_trod {P : Program} {t e : TypeId} (ht : P.underlying t = some (.slice e)) (he : P.underlying e = some (.int .u8)) (hc : P.cellsOf e = 1) {fuel : Nat} {cs : List Value} {x : DataW H × List MemPlace}
    (hf : DataW.trod enc P W 0 sp true fuel t cs = some x) :
    ∃ A bs c, cs = [.slice A bs.length c] ∧ bs.length ≤ c ∧ c ≤ maxLen ∧ Sees W A (u8s bs) ∧ ((∃ es rest, x.1 = .slice es rest ∧ bs.length ≤ es.length) ∨ (x.1 = .nil ∧ bs.length = 0)) := by
  rcases open_ints ht he hc hf with ⟨rfl, h2⟩ | ⟨a, len, cap, zs, rfl, _, hl, hm, hz, hx, hcell, hwf⟩
  · exact ⟨none, [], 0, rfl, Nat.le_refl _, Nat.zero_le _, Sees.nil _ _, .inr ⟨by rw [h2], rfl⟩⟩
  · have hlz : len ≤ zs.length := by rw [hz]; split <;> omega
    refine ⟨some a, (zs.take len).map (fun z => UInt8.ofNat z.toNat), cap, ?_, ?_, hm, ?_, .inl ⟨_, _, by rw [hx], ?_⟩⟩
    · simp [Nat.min_eq_left hlz]
    · simp [Nat.min_eq_left hlz, hl]
    · intro j v hj
      refine ⟨a, rfl, ?_⟩
      simp only [u8s, List.getElem?_map, Option.map_eq_some_iff, List.map_map] at hj
      obtain ⟨z, hz1, rfl⟩ := hj
      obtain ⟨hj1, hj2⟩ := List.getElem?_eq_some_iff.1 hz1
      simp at hj1
      rw [hcell j (by omega)]
      simp at hj2
      have hw := hwf zs[j] (List.getElem_mem _)
      simp [Lit.wf, IntKind.min, IntKind.max, IntKind.signed, IntKind.bits] at hw
      have : zs.getD j 0 = zs[j] := by simp [List.getD, show j < zs.length by omega]
      rw [this, ← hj2]
      have h0 : ((UInt8.ofNat zs[j].toNat).toNat : Int) = zs[j] := by
        rw [UInt8.toNat_ofNat', Nat.mod_eq_of_lt (by omega)]
        omega
      simp only [Function.comp_apply, u8v, h0]
    · simp [lits]

theorem weights_all {P : Program} {e : TypeId} {l : List (DataW H)} {d : DataW H} (h : d ∈ l) : ∀ n ∈ d.weights P e, n ∈ DataW.weightsAll P e l := by
  induction l with
  | nil => cases h
  | cons x r ih =>
    intro n hn
    simp only [DataW.weightsAll, List.mem_append]
    rcases List.mem_cons.1 h with rfl | h
    · exact .inl hn
    · exact .inr (ih h n hn)
/-- One frame of a row. -/
def oneFrame (P : Program) (H : Type) (enc : TypeId × Value → H) (W : World) (a : Addr) (elems : List (DataW H)) (i : Nat) (y : (Int × List UInt8) × List Value) : Prop :=
  frSeen W y.1 y.2 ∧ (∀ k u, y.2[k]? = some u → W.cell? (a.add (i * 2 + k)) = some u) ∧ ∃ d ∈ elems, ∀ m, (∀ n ∈ d.weights P 57, n ≤ m) → y.1.2.length ≤ m
theorem open_frames {r : Reach} {b0 : Nat} {v : Value} {d : DataW H} {ps : List MemPlace} (hval : Value.okWide Try.prog W r b0 32 v) (hd : DataW.Trod enc Try.prog W 0 sp true 32 v d ps) :
    ∃ A xs c cells, v = .slice A xs.length c ∧ xs.length ≤ c ∧ c ≤ maxLen ∧ Sees W A cells ∧ Recs frSeen 2 W xs cells ∧ ∀ m, (∀ n ∈ d.weights Try.prog 32, n ≤ m) → xs.length ≤ m ∧ ∀ f ∈ xs, f.2.length ≤ m := by
  obtain ⟨a0, len, cap, rfl⟩ := okWide_slice Try.underlying32 hval
  obtain ⟨fuel, hf⟩ := hd
  rcases DataW.trod_slice Try.underlying32 hf with ⟨h1, h2⟩ | ⟨a, len', cap', elems, rest, n, _, h1, h2, _, hl, hm, hlen, hel, _, _⟩
  · simp [Value.cells] at h1
    obtain ⟨rfl, rfl, rfl⟩ := h1
    exact ⟨none, [], 0, [], rfl, Nat.le_refl _, Nat.zero_le _, Sees.nil _ _, Recs.nil, fun m _ => ⟨Nat.zero_le _, fun f hf => by cases hf⟩⟩
  simp [Value.cells] at h1
  obtain ⟨rfl, rfl, rfl⟩ := h1
  simp only [Prod.mk.injEq] at h2
  have c2 : Try.prog.cellsOf 57 = 2 := by kernel_rfl
  have ci : Try.prog.cellsOf 3 = 1 := by kernel_rfl
  have cb : Try.prog.cellsOf 5 = 1 := by kernel_rfl
  have cs1 : Try.prog.cellsOf 22 = 1 := by kernel_rfl
  have each : ∀ i : Nat, ∃ y : (Int × List UInt8) × List Value, i < len → oneFrame Try.prog H enc W a (elems.map (·.1)) i y := by
    intro i
    by_cases hi : i < len
    · have h3 := hel i hi
      rw [List.getElem?_eq_getElem (by omega), c2, Option.bind_eq_some_iff] at h3
      obtain ⟨cs, hcs, hy⟩ := h3
      obtain ⟨y0, y1, m, hx, hcl, t0, t1⟩ := trod_struct2 Try.underlying57 hy
      rw [c2] at hcl
      simp only [ci, cs1, List.drop_zero] at t0 t1
      obtain ⟨k, e0, _, _⟩ := DataW.trod_int Try.underlying3 t0
      obtain ⟨A1, bs, c1, e1, _, _, hs, hb⟩ := u8s_of_trod Try.underlying22 Try.underlying5 cb t1
      have hcs2 : cs = [.int .i64 k, .slice A1 bs.length c1] := by
        match cs, hcl, e0, e1 with
        | [u, v], _, e0, e1 => simp at e0 e1; rw [e0, e1]
      refine ⟨((k, bs), cs), fun _ => ⟨⟨A1, c1, hcs2, hs⟩, fun j u hj => ?_, elems[i].1, List.mem_map.2 ⟨_, List.getElem_mem _, rfl⟩, fun m hm => ?_⟩⟩
      · have hj2 : j < 2 := by
          have := (List.getElem?_eq_some_iff.1 hj).1
          simp only [hcl] at this
          exact this
        have h5 := (World.cells?_some hcs).2.2 j hj2
        rw [add_at] at h5
        rw [h5]
        exact hj
      · rw [hx] at hm
        rcases hb with ⟨es, rs, hd1, hle⟩ | ⟨_, h0⟩
        · refine Nat.le_trans hle (Nat.le_trans ?_ (hm ((es.length + rs.length) * Try.prog.bytesOf 5) ?_))
          · rw [show Try.prog.bytesOf 5 = 1 from by kernel_rfl]
            omega
          · simp only [DataW.weights, Try.underlying57, DataW.weightsEach, List.map_cons, List.map_nil, hd1, Try.underlying22]
            simp
        · rw [h0]; exact Nat.zero_le _
    · exact ⟨((0, []), []), fun h => absurd h hi⟩
  obtain ⟨g, hg⟩ := Classical.axiomOfChoice each
  have hcss : ∀ cs ∈ (List.range len).map (fun i => (g i).2), cs.length = 2 := by
    intro cs hcs
    obtain ⟨i, hi, rfl⟩ := List.mem_map.1 hcs
    obtain ⟨⟨_, _, e, _⟩, _⟩ := hg i (List.mem_range.1 hi)
    rw [e]
    rfl
  refine ⟨some a, (List.range len).map (fun i => (g i).1), cap, ((List.range len).map (fun i => (g i).2)).flatten, by simp, by simpa using hl, hm, ?_, ⟨_, rfl, by simp, ?_⟩, ?_⟩
  · intro j v hj
    refine ⟨a, rfl, ?_⟩
    have hjl := (List.getElem?_eq_some_iff.1 hj).1
    rw [flatten_len hcss, List.length_map, List.length_range] at hjl
    have hi : j / 2 < len := by omega
    have h6 : ((List.range len).map (fun i => (g i).2))[j / 2]? = some (g (j / 2)).2 := by simp [hi]
    have h7 : j % 2 < (g (j / 2)).2.length := by rw [hcss _ (List.mem_of_getElem? h6)]; omega
    have h8 := flatten_get hcss (j / 2) _ h6 (j % 2) _ (List.getElem?_eq_getElem h7)
    rw [show j / 2 * 2 + j % 2 = j from by omega] at h8
    rw [h8] at hj
    cases hj
    have h9 := (hg (j / 2) hi).2.1 (j % 2) _ (List.getElem?_eq_getElem h7)
    rwa [show j / 2 * 2 + j % 2 = j from by omega] at h9
  · intro j x cs hx hcs
    simp only [List.getElem?_map, Option.map_eq_some_iff] at hx hcs
    obtain ⟨i, hi, rfl⟩ := hx
    obtain ⟨i', hi', rfl⟩ := hcs
    rw [hi] at hi'
    cases hi'
    have hil : i < len := List.mem_range.1 (List.mem_of_getElem? hi)
    exact ⟨hcss _ (List.mem_map.2 ⟨i, List.mem_range.2 hil, rfl⟩), (hg i hil).1⟩
  · intro m hm
    rw [h2.1] at hm
    simp only [DataW.weights, Try.underlying32] at hm
    refine ⟨?_, fun f hf => ?_⟩
    · have h5 := hm _ (List.mem_cons_self)
      rw [show Try.prog.bytesOf 57 = 32 from by kernel_rfl] at h5
      simp only [List.length_map] at h5 ⊢
      simp
      omega
    · obtain ⟨i, hi, rfl⟩ := List.mem_map.1 hf
      obtain ⟨_, _, d, hd, hb⟩ := hg i (List.mem_range.1 hi)
      exact hb m (fun n hn => hm n (List.mem_cons_of_mem _ (List.mem_append_left _ (weights_all hd n hn))))
end
end Go.Proofs.Ytfbcdlbcdaobcaa
