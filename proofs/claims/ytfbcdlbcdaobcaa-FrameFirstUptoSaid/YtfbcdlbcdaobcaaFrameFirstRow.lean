/-
  The law FrameFirst of layer 2 holds at every input whose reading is of bulk at most 1048576: it answers true and leaves its arguments as they were.
-/
import Derived.Test.YtfbcdlbcdaobcaaFrameFirst
import Derived.Test.YtfbcdlbcdaobcaaRowLib2
import Derived.JoinedCond
import Derived.Deep.CondSized
set_option linter.unusedVariables false
set_option linter.unusedSimpArgs false
namespace Go.Proofs.Ytfbcdlbcdaobcaa
open Go.ChangeShapes Go.WideShapes Go.ChangeAt Go.RowKit

theorem bulk_length {H : Type} (l : List (DataW H)) : l.length ≤ Rows.uptoBulkAll l := by
  induction l with
  | nil => simp [Rows.uptoBulkAll]
  | cons x r ih =>
    have h1 : 1 ≤ Rows.uptoBulk x := by
      cases x with
      | lit l => cases l <;> simp [Rows.uptoBulk]
      | nil => simp [Rows.uptoBulk]
      | ptr d => simp [Rows.uptoBulk]
      | slice elems spare => simp [Rows.uptoBulk]
      | agg parts => simp [Rows.uptoBulk]
      | iface t d => simp [Rows.uptoBulk]
      | map entries => simp [Rows.uptoBulk]
      | held h => simp [Rows.uptoBulk]
    simp only [Rows.uptoBulkAll, List.length_cons]
    omega
theorem bulk_part {H : Type} {d : DataW H} {l : List (DataW H)} (h : d ∈ l) : Rows.uptoBulk d ≤ Rows.uptoBulkAll l := by
  induction l with
  | nil => cases h
  | cons x r ih =>
    simp only [Rows.uptoBulkAll]
    rcases List.mem_cons.1 h with e | e
    · subst e
      omega
    · have := ih e
      omega
/-- A row of bytes within the bound. -/
theorem small_u8s {H : Type} {d : DataW H} {l : List (DataW H)} {n : Nat} (hk : Rows.uptoSmall H l = true) (hd : d ∈ l) (h1 : ∀ es rest, d = .slice es rest → n ≤ es.length) (h2 : d = .nil → n = 0) (h3 : (∃ es rest, d = .slice es rest) ∨ d = .nil) : n ≤ 1048576 := by
  have h : Rows.uptoBulkAll l ≤ 1048576 := of_decide_eq_true hk
  have hp := bulk_part hd
  rcases h3 with ⟨es, rest, rfl⟩ | rfl
  · have h5 := h1 es rest rfl
    have h6 := bulk_length es
    simp only [Rows.uptoBulk] at hp
    omega
  · rw [h2 rfl]
    exact Nat.zero_le _

set_option maxRecDepth 100000 in
theorem frameFirst_lifted (os : Os) (started : os.Started) (H : Type) (enc : TypeId × Value → H) (F : Stop.Interp) :
    ReturnsInHanded {} Try.checked os 7 .any ((Rows.OpenSpec.upto Rows.frameFirstSpec).pre6 enc Try.prog Try.f7 Rows.frameFirstUptoRow.domain false) (((Rows.OpenSpec.upto Rows.frameFirstSpec).at F).post enc Try.prog Try.f7 false true false false) := by
  refine returnsInHanded_of_cond_sized (C := Try.checked) (s := Rows.OpenSpec.upto Rows.frameFirstSpec) (k := Rows.uptoSmall) rfl own started (by kernel_rfl) Try.func7
    (OpenSpec.witness (enc := enc) (C := Try.checked) (s := Rows.OpenSpec.upto Rows.frameFirstSpec) (k := Rows.uptoSmall) rfl false ⟨#[], #[.slice none 0 0, .slice none 0 0], []⟩ 8 (by kernel_rfl) (by kernel_rfl) (by kernel_rfl)
      (x := ([.nil, .nil], [], [])) (by kernel_rfl) rfl (by kernel_rfl)) ?_
  intro W base args ds gs before hval0 hW hcnd hk hsz _
  have hval : ∀ (j : Nat) t v, Try.f7.params[j]? = some t → args[j]? = some v → Value.okWide Try.prog W .any base t v := hval0
  have hW' : DataW.Whole enc Try.prog Try.f7.params.toList Rows.frameFirstSpec.vars false W args.toList ds gs before := hW
  obtain ⟨p, q, hA0, hV, hpq, hfz, hnd⟩ := hW
  have hA : DataW.TrodAll enc Try.prog W 0 (fun _ => true) true Try.f7.params.toList args.toList ds p := hA0
  rw [Try.params7] at hA hval
  obtain ⟨v0, v1, d0, d1, p0, p1, rfl, rfl, _, h0, h1⟩ := trodAll_two hA
  obtain ⟨A, xs, c, cells, rfl, hc, hm, hs, hr, hb⟩ := open_frames (hval 0 32 v0 rfl rfl) h0
  obtain ⟨M, more, cm, rfl, hcc, hcm, hsM, z1, z2, z3⟩ := open_u8s Try.underlying22 Try.underlying5 (by kernel_rfl) (hval 1 22 v1 rfl rfl) h1
  have hB := hb 140737488355328 (fun n hn => Nat.le_trans (by simpa using List.all_eq_true.1 hsz _ (DataW.weights_mem_each (j := 0) rfl rfl n hn)) (by decide : reachBytes ≤ 140737488355328))
  refine (frameFirst_any xs A c cells M more cm W hc hm hB.1 hB.2 hs hr hcc hcm (small_u8s hk (by simp) z1 z2 z3) hsM).mono fun e W' h => ?_
  exact post_true laidOut (by kernel_rfl) Try.underlying4 (by kernel_rfl) rfl hW' (fun hg => by subst hg; rfl) h

theorem frameFirst_holds : Rows.FrameFirstUptoSaid :=
  OpenClaim.holds_of_cond 7 Try.f7 rfl rfl rfl rfl rfl rfl rfl ⟨rfl, rfl, rfl, rfl, rfl⟩ rfl rfl rfl rfl rfl (by kernel_rfl) Try.func7 (by kernel_rfl)
    (of_decide_eq_true (by kernel_rfl)) (by unfold Func.isWrapper; first | (rw [if_pos (by decide +kernel)]; kernel_rfl) | (rw [if_neg (by decide +kernel)]; exact ⟨rfl, rfl⟩))
    (fun os started H enc _ F => frameFirst_lifted os started H enc F)
#print axioms frameFirst_holds
end Go.Proofs.Ytfbcdlbcdaobcaa
