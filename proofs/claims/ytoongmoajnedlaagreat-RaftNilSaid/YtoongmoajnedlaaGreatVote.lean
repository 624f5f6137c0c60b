/-
  vote.Won.
-/
import Derived.Test.YtoongmoajnedlaaGreatVc6
set_option linter.unusedVariables false
set_option linter.unusedSimpArgs false
set_option maxRecDepth 100000
namespace Go.Proofs.YtoongmoajnedlaaGreat.C
open Go.RowKit Go.Maps

def setD (is : List Int) : DataW Unit := setOf (.lit (.bool true)) (is.map (Lit.int .i64))
def RetSetX (is : List Int) (w : World) (e : Ending) (w' : World) : Prop := e = .returned (.map (some w.heap.size)) ∧ w'.ownsMap Tryz.prog 3 boolR w.heap.size is.length (setD is) ∧ Below w.heap.size w w'
theorem addKey_all : ∀ (xs acc : List Int), xs.Nodup → (∀ x ∈ xs, x ∉ acc) → (xs.map (Lit.int .i64)).foldl addKey (acc.map (Lit.int .i64)) = (acc ++ xs).map (Lit.int .i64)
  | [], acc, _, _ => by simp
  | x :: r, acc, hn, hd => by
    have hn' := List.nodup_cons.1 hn
    have h1 : addKey (acc.map (Lit.int .i64)) (.int .i64 x) = (acc ++ [x]).map (Lit.int .i64) := by
      unfold addKey
      rw [if_neg]
      · simp
      · rw [Bool.not_eq_true, List.any_eq_false]
        intro y hy
        obtain ⟨z, hz, rfl⟩ := List.mem_map.1 hy
        have : z ≠ x := fun e => hd x (by simp) (e ▸ hz)
        simp [Lit.sameKey, this]
    rw [List.map_cons, List.foldl_cons, h1, addKey_all r (acc ++ [x]) hn'.2 (fun y hy h => by
      rcases List.mem_append.1 h with h | h
      · exact hd y (by simp [hy]) h
      · rw [List.mem_singleton] at h
        exact hn'.1 (h ▸ hy))]
    simp
theorem size_setD {is : List Int} (h : is.Nodup) : Maps.size (setD is) = is.length := by
  unfold setD
  rw [size_setOf _ _ (fun x hx => by obtain ⟨y, _, rfl⟩ := List.mem_map.1 hx; trivial)]
  have := addKey_all is [] h (fun _ _ h => by cases h)
  rw [show ([] : List Lit) = ([] : List Int).map (Lit.int .i64) from rfl, this]
  simp
theorem setD_take {is : List Int} {k : Nat} (hk : k < is.length) : setD (is.take (k + 1)) = (setD (is.take k)).put (.int .i64 is[k]) (.lit (.bool true)) := by
  unfold setD
  rw [List.take_succ_eq_append_getElem hk, List.map_append]
  exact setOf_snoc _ _ _
set_option maxHeartbeats 400000 in
theorem setx_any (A : Option Addr) (is : List Int) (c : Nat) (w : World) (hc : is.length ≤ c) (hl : is.length ≤ 140737488355328) (h : Sees w A (is.map i64v)) (hwf : ∀ x ∈ is, (Lit.int .i64 x).wf = true) :
    Calls Tryz.prog 168 #[.slice A is.length c] w (RetSetX is w) := by
  have H := Lib.hid h
  have HWF := Lib.hid hwf
  have hmm := @run_makeMap Tryz.prog
  clear h hwf
  go_enter Tryz.func168, Tryz.ntmps168
  go_wp2
  go_loopw [9] (fun s wr => ∃ k : Nat, s = .int .i64 (k : Int) ∧ k ≤ is.length ∧ wr.ownsMap Tryz.prog 3 boolR w.heap.size k (setD (is.take k)) ∧ Below w.heap.size w wr) (fun s _ => is.length - (intOf s).toNat)
  case atStart => exact ⟨0, rfl, Nat.zero_le _, World.ownsMap_made _ _ _ _, (Below.refl _ w).alloc (Nat.le_refl _) _⟩
  case round =>
    obtain ⟨k, rfl, hk, hown, hb⟩ := hrel
    have HOW := Lib.hid hown
    have HB := Lib.hid hb
    by_cases hlt : k < is.length
    · obtain ⟨ad, rfl, hcell⟩ := ints_at (H.out.below hb) k hlt
      have hki : (k : Int) < (is.length : Int) := by omega
      have HX := Lib.hid (HWF.out is[k] (List.getElem_mem hlt))
      have HT := Lib.hid (setD_take hlt)
      obtain ⟨x, hx⟩ : ∃ x, is[k] = x := ⟨_, rfl⟩
      rw [hx] at hcell HX HT
      clear hx hown hb
      go_wp2_with (first
        | (at_mapUpdate; refine wpList_mapUpdate_own _ rfl _ _ _ 234 rfl 3 4 keyed Tryz.underlying234 _ w.heap.size k (setD (is.take k)) rfl HOW.out (by simp only [maxLen]; omega) _ _ _ rfl rfl (keyOf_int_mk Tryz.underlying3 HX.out) _ [] (boolR_mk true) ?_; intro w1 hown1 hgrow1)
        | fail)
      go_roundw
      case rel => exact ⟨k + 1, by go_num, by omega, by rw [HT.out]; exact hown1, HB.out.grown hgrow1 HB.out.size (fun k hk => by cases hk; exact Nat.le_refl _)⟩
      case measure => simp [intOf]; omega
    · obtain rfl : k = is.length := by omega
      have hki : ¬ ((is.length : Int) < (is.length : Int)) := by omega
      have HE : Hid (is.take is.length = is) := Lib.hid (List.take_length)
      clear hown hb
      go_wp2
      go_ret
      have h9 := HOW.out
      rw [HE.out] at h9
      exact ⟨rfl, h9, HB.out⟩
set_option maxHeartbeats 400000 in
theorem won_any (A B : Option Addr) (sv ys : List Int) (c d : Nat) (w : World) (hc : sv.length ≤ c) (hd : ys.length ≤ d) (hl : sv.length ≤ 100000) (hl2 : ys.length ≤ 100000) (hA : Sees w A (sv.map i64v)) (hB : Sees w B (ys.map i64v))
    (hwf : ∀ x ∈ sv, (Lit.int .i64 x).wf = true) (hwf2 : ∀ x ∈ ys, (Lit.int .i64 x).wf = true) (hnd : sv.Nodup) :
    Calls Tryz.prog 138 #[.slice A sv.length c, .slice B ys.length d] w (fun e w' => e = .returned (.bool (decide (sv.length < 2 * commonN sv ys))) ∧ Below w.heap.size w w') := by
  have HC := Lib.hid (count_any A B sv ys c d w hc hd (by omega) (by omega) hA hB hwf hwf2 hnd)
  have HS := Lib.hid (fun w' (hb : Below w.heap.size w w') => setx_any A sv c w' hc (by omega) (hA.below hb) hwf)
  have HZ := Lib.hid (size_setD hnd)
  have hcm : commonN sv ys ≤ sv.length := List.length_filter_le _ _
  obtain ⟨m, hm⟩ : ∃ m, commonN sv ys = m := ⟨_, rfl⟩
  rw [hm] at HC hcm ⊢
  clear hA hB hwf hwf2 hnd hm
  go_enter Tryz.func138, Tryz.ntmps138
  go_wp2_with (first
    | (go_at_call 154; refine HC.out.mono ?_; rintro e w1 ⟨rfl, hb1⟩)
    | (go_at_call 168; refine (HS.out _ hb1).mono ?_; rintro e w2 ⟨rfl, hown2, hb2⟩)
    | (at_len; refine wpList_len_own _ rfl _ 234 rfl 3 4 Tryz.underlying234 _ w1.heap.size sv.length (setD sv) rfl hown2 ?_; rw [HZ.out])
    | fail)
  go_ret
  refine ⟨?_, below_step hb1 hb1.size hb2⟩
  show Ending.returned (.bool (decide ((sv.length : Int) < 2 * (m : Int)))) = _
  have h9 : decide ((sv.length : Int) < 2 * (m : Int)) = decide (sv.length < 2 * m) := decide_eq_decide.2 (by omega)
  rw [h9]
end Go.Proofs.YtoongmoajnedlaaGreat.C
