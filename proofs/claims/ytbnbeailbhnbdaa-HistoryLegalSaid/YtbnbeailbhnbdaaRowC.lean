/-
  For the rows: calls, opened.
-/
import Derived.Test.YtbnbeailbhnbdaaOwnA
import Derived.Test.YtbnbeailbhnbdaaRowK
set_option linter.unusedVariables false
set_option linter.unusedSimpArgs false
namespace Go.Proofs.Ytbnbeailbhnbdaa
open Go.ChangeShapes Go.WideShapes Go.ChangeAt Go.RowKit

section
variable {H : Type} {enc : TypeId × Value → H} {W : World} {sp : Nat → Bool}
theorem opens_rows : Opens Try.prog enc W sp 26 (fun (rs : List (List UInt8)) cs => ∃ R rc, cs = [.slice R rs.length rc] ∧ SeenR W R rs) (fun m rs => rs.length * 24 ≤ m ∧ ∀ r ∈ rs, r.length ≤ m) :=
  opens_mono (opens_slice 1 24 Try.underlying26 (by kernel_rfl) (by decide) (by kernel_rfl) (fun y cs ⟨A, c, h, _⟩ => by rw [h]; rfl) (opens_bytes Try.underlying30 Try.underlying5 (by kernel_rfl) (by kernel_rfl)))
    (fun rs cs ⟨A, c, cells, h1, h2, h3, h4, h5⟩ => ⟨A, c, h1, cells, h4, h5⟩) (fun m rs h => h)
theorem opens_call : Opens Try.prog enc W sp 50 (fun (x : Full) cs => CallR W x cs) (fun m (x : Full) => x.2.1.length ≤ m ∧ x.2.2.length * 24 ≤ m ∧ ∀ r ∈ x.2.2, r.length ≤ m) := fun fuel cs x h => by
  have ht := Try.underlying50
  have c1 : Try.prog.cellsOf 3 = 1 := by kernel_rfl
  have c2 : Try.prog.cellsOf 4 = 1 := by kernel_rfl
  have c3 : Try.prog.cellsOf 30 = 1 := by kernel_rfl
  have c4 : Try.prog.cellsOf 26 = 1 := by kernel_rfl
  have c5 : Try.prog.cellsOf 50 = 12 := by kernel_rfl
  obtain ⟨xs, n, _, rfl, hl, hlen, hf⟩ := DataW.trod_struct ht h
  rw [c5] at hl
  match cs, hl, xs, hlen with
  | [v0, v1, v2, v3, v4, v5, v6, v7, v8, v9, v10, v11], _, [x0, x1, x2, x3, x4, x5, x6, x7, x8, x9, x10, x11], _ =>
    have h0 : DataW.trod enc Try.prog W 0 sp true n 3 [v0] = some x0 := by
      have := hf 0 _ rfl
      simpa [c1] using this
    have h1 : DataW.trod enc Try.prog W 0 sp true n 3 [v1] = some x1 := by
      have := hf 1 _ rfl
      simpa [c1] using this
    have h2 : DataW.trod enc Try.prog W 0 sp true n 3 [v2] = some x2 := by
      have := hf 2 _ rfl
      simpa [c1] using this
    have h3 : DataW.trod enc Try.prog W 0 sp true n 3 [v3] = some x3 := by
      have := hf 3 _ rfl
      simpa [c1] using this
    have h4 : DataW.trod enc Try.prog W 0 sp true n 3 [v4] = some x4 := by
      have := hf 4 _ rfl
      simpa [c1] using this
    have h5 : DataW.trod enc Try.prog W 0 sp true n 4 [v5] = some x5 := by
      have := hf 5 _ rfl
      simpa [c2] using this
    have h6 : DataW.trod enc Try.prog W 0 sp true n 3 [v6] = some x6 := by
      have := hf 6 _ rfl
      simpa [c1] using this
    have h7 : DataW.trod enc Try.prog W 0 sp true n 3 [v7] = some x7 := by
      have := hf 7 _ rfl
      simpa [c1] using this
    have h8 : DataW.trod enc Try.prog W 0 sp true n 3 [v8] = some x8 := by
      have := hf 8 _ rfl
      simpa [c1] using this
    have h9 : DataW.trod enc Try.prog W 0 sp true n 3 [v9] = some x9 := by
      have := hf 9 _ rfl
      simpa [c1] using this
    have h10 : DataW.trod enc Try.prog W 0 sp true n 30 [v10] = some x10 := by
      have := hf 10 _ rfl
      simpa [c3] using this
    have h11 : DataW.trod enc Try.prog W 0 sp true n 26 [v11] = some x11 := by
      have := hf 11 _ rfl
      simpa [c4] using this
    have oi : ∀ (v : Value) y, DataW.trod enc Try.prog W 0 sp true n 3 [v] = some y → ∃ i, v = .int .i64 i := fun v y hy => by
      obtain ⟨i, e, _⟩ := DataW.trod_int Try.underlying3 hy
      exact ⟨i, by simpa using e⟩
    obtain ⟨i0, rfl⟩ := oi _ _ h0
    obtain ⟨i1, rfl⟩ := oi _ _ h1
    obtain ⟨i2, rfl⟩ := oi _ _ h2
    obtain ⟨i3, rfl⟩ := oi _ _ h3
    obtain ⟨i4, rfl⟩ := oi _ _ h4
    obtain ⟨i5, e5, _⟩ := DataW.trod_bool Try.underlying4 h5
    obtain ⟨i6, rfl⟩ := oi _ _ h6
    obtain ⟨i7, rfl⟩ := oi _ _ h7
    obtain ⟨i8, rfl⟩ := oi _ _ h8
    obtain ⟨i9, rfl⟩ := oi _ _ h9
    obtain ⟨bs, ⟨D, dc, e10, k1, _, k2⟩, kb⟩ := opens_bytes (sp := sp) Try.underlying30 Try.underlying5 (by kernel_rfl) (by kernel_rfl) _ _ _ h10
    obtain ⟨rs, ⟨R, rc, e11, k3⟩, kr⟩ := opens_rows _ _ _ h11
    simp only [List.cons.injEq, and_true] at e5 e10 e11
    subst e5 e10 e11
    refine ⟨(⟨i0, i1, i2, i3, i4, i5, i6, i7, i8, i9, .slice D bs.length dc, .slice R rs.length rc⟩, bs, rs), ⟨rfl, ⟨D, dc, rfl, k1, k2⟩, R, rc, rfl, k3⟩, fun m hm => ?_⟩
    simp only [DataW.weights, ht] at hm
    have w10 := kb m (fun n' hn => hm n' (by simp only [DataW.weightsEach, List.map_cons, List.map_nil, List.mem_append]; simp [hn]))
    have w11 := kr m (fun n' hn => hm n' (by simp only [DataW.weightsEach, List.map_cons, List.map_nil, List.mem_append]; simp [hn]))
    exact ⟨w10, w11.1, w11.2⟩
theorem opens_calls : Opens Try.prog enc W sp 40 (SliceR W (fun (x : Full) cs => CallR W x cs) 12) (fun m (xs : List Full) => xs.length * 128 ≤ m ∧ ∀ x ∈ xs, x.2.1.length ≤ m ∧ x.2.2.length * 24 ≤ m ∧ ∀ r ∈ x.2.2, r.length ≤ m) :=
  opens_slice 12 128 Try.underlying40 (by kernel_rfl) (by decide) (by kernel_rfl) (fun y cs h => by rw [h.1]; rfl) opens_call
theorem seenC_of {A : Option Addr} {n c : Nat} {xs : List Full} (h : SliceR W (fun (x : Full) cs => CallR W x cs) 12 xs (Value.slice A n c).cells.toList) : (n = xs.length ∧ xs.length ≤ c) ∧ SeenC W A xs := by
  obtain ⟨A', c', cells, e, h1, h2, h3, h4⟩ := h
  simp [Value.cells] at e
  obtain ⟨rfl, rfl, rfl⟩ := e
  exact ⟨⟨rfl, h1⟩, cells, h3, h4⟩
end
end Go.Proofs.Ytbnbeailbhnbdaa
