/-
  The law NetPlays of layer 17 holds at every input: it answers true and leaves its arguments as they were. No condition.
-/
import Derived.Test.YtfhmdphcgcmaeaaPlays
import Derived.Test.YtfhmdphcgcmaeaaNetRowLib
set_option linter.unusedVariables false
set_option linter.unusedSimpArgs false
namespace Go.Proofs.Ytfhmdphcgcmaeaa
open Go.ChangeShapes Go.WideShapes Go.ChangeAt Go.RowKit

theorem plays_any (most : Int) (A B : Option Addr) (one two : List OpV) (c d : Nat) (w : World) (h1 : SeenO w A one) (h2 : SeenO w B two) (hc : one.length ≤ c) (hd : two.length ≤ d) (hl1 : one.length ≤ 140737488351232) (hl2 : two.length ≤ 140737488351232)
    (hb1 : ∀ o ∈ one, o.2.2.2.length * 8 ≤ 140737488351232) (hb2 : ∀ o ∈ two, o.2.2.2.length * 8 ≤ 140737488351232) :
    Calls Try.prog 6 #[.int .i64 most, .slice A one.length c, .slice B two.length d] w (RetBool w true) := by
  by_cases h : 1 ≤ most ∧ most ≤ 10000
  · exact plays_two most A B one two c d w h1 h2 hc hd hl1 hl2 hb1 hb2 h.1 h.2
  · exact plays_one most A B one two c d w h1 h2 hc hd hl1 hl2 hb1 hb2 (by omega)
theorem seenO_of {W : World} {A : Option Addr} {n c : Nat} {os : List OpT} (hos : SliceR W (OpR W) 6 os (Value.slice A n c).cells.toList) (hB : ∀ o ∈ os, o.2.2.1.2.2.length ≤ 140737488351232 ∧ o.2.2.2.length * 8 ≤ 140737488351232) : (n = os.length ∧ os.length ≤ c) ∧ SeenO W A os := by
  obtain ⟨A', c', cells, e, h1, h2, h3, h4⟩ := hos
  simp [Value.cells] at e
  obtain ⟨rfl, rfl, rfl⟩ := e
  refine ⟨⟨rfl, h1⟩, cells, h3, h4.imp fun j o cs ho hr => ?_⟩
  obtain ⟨A1, c1, B1, d1, e, q1, q2, q3, q4, _⟩ := hr
  have hbo := hB o (List.mem_of_getElem? ho)
  exact ⟨A1, c1, B1, d1, e, q1, hbo.1, q2, q3, by omega, q4⟩
set_option maxRecDepth 100000 in
theorem netPlays_lifted (os : Os) (started : os.Started) (H : Type) (enc : TypeId × Value → H) :
    ReturnsInHanded {} Try.checked os 6 .any (Rows.netPlaysSpec.pre6 enc Try.prog Try.f6 Rows.netPlaysRow.domain false) (Rows.netPlaysSpec.post enc Try.prog Try.f6 false true false false) := by
  refine returnsInHanded_of_change_sized (C := Try.checked) own started (by kernel_rfl) Try.func6
    (ChangeSpec.witness6 (enc := enc) (C := Try.checked) false ⟨#[], #[.int .i64 0, .slice none 0 0, .slice none 0 0], []⟩ 8 (by kernel_rfl) (by kernel_rfl) (by kernel_rfl) (by kernel_rfl)) ?_
  intro W base args ds gs before hval0 hW hcnd hsz _
  have hval : ∀ (j : Nat) t v, Try.f6.params[j]? = some t → args[j]? = some v → Value.okWide Try.prog W .any base t v := hval0
  have hW' := hW
  obtain ⟨p, q, hA0, hV, hpq, hfz, hnd⟩ := hW
  have hA : DataW.TrodAll enc Try.prog W 0 (fun _ => true) true Try.f6.params.toList args.toList ds p := hA0
  rw [Try.params6] at hA hval
  obtain ⟨v0, v1, v2, d0, d1, d2, p0, p1, p2, rfl, rfl, _, h0, h1, h2⟩ := trodAll_three hA
  obtain ⟨most, rfl⟩ := okWide_int Try.underlying3 (hval 0 3 v0 rfl rfl)
  obtain ⟨A, n, c, rfl⟩ := okWide_slice Try.underlying41 (hval 1 41 v1 rfl rfl)
  obtain ⟨B, m, d, rfl⟩ := okWide_slice Try.underlying41 (hval 2 41 v2 rfl rfl)
  obtain ⟨ls, hls, hb⟩ := open_top opens_ops h1
  obtain ⟨ts, hts, hb1⟩ := open_top opens_ops h2
  have hB := hb _ (reach_of hsz (j := 1) rfl rfl)
  have hB1 := hb1 _ (reach_of hsz (j := 2) rfl rfl)
  obtain ⟨⟨rfl, hc⟩, hs1⟩ := seenO_of hls hB.2
  obtain ⟨⟨rfl, hd⟩, hs2⟩ := seenO_of hts hB1.2
  refine (plays_any most A B ls ts c d W hs1 hs2 hc hd (by omega) (by omega) (fun o ho => (hB.2 o ho).2) (fun o ho => (hB1.2 o ho).2)).mono fun e W' h => ?_
  exact post_true laidOut (by kernel_rfl) Try.underlying4 (by kernel_rfl) rfl hW' (fun hg => by subst hg; rfl) h

theorem netPlays_holds : Rows.NetPlaysSaid :=
  OpenClaim.holds_of_wide 6 Try.f6 rfl rfl rfl rfl rfl rfl rfl ⟨rfl, rfl, rfl, rfl, rfl⟩ rfl rfl rfl rfl rfl (by kernel_rfl) Try.func6 (by kernel_rfl)
    (of_decide_eq_true (by kernel_rfl)) (by unfold Func.isWrapper; first | (rw [if_pos (by decide +kernel)]; kernel_rfl) | (rw [if_neg (by decide +kernel)]; exact ⟨rfl, rfl⟩))
    (fun os started H enc _ => netPlays_lifted os started H enc)
#print axioms netPlays_holds
end Go.Proofs.Ytfhmdphcgcmaeaa
