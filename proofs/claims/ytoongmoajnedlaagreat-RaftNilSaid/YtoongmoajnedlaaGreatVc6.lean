/-
  Lists as sets (package vote; out of layer 11).
-/
import Derived.Test.YtoongmoajnedlaaGreatVcA
import Derived.Maps.OwnOps
import Derived.Maps.Views
import Derived.Maps.Keyed
import Derived.Maps.RangeWalk
set_option linter.unusedVariables false
set_option linter.unusedSimpArgs false
set_option maxRecDepth 100000
namespace Go.Proofs.YtoongmoajnedlaaGreat.C
open Go.RowKit Go.Maps

theorem keyed : Keyed Tryz.prog 3 := int_keyed Tryz.underlying3
theorem zeroB (w : World) : (zeroValue 4).run Tryz.prog w = .ok (.bool false) w := by kernel_rfl
noncomputable abbrev boolR : Value → Option (DataW Unit × List MemPlace) := plainElem Tryz.prog 4
theorem boolR_mk (b : Bool) : boolR (.bool b) = some (.lit (.bool b), []) := by
  unfold boolR plainElem
  rw [Tryz.underlying4]
theorem boolR_inv {v : Value} {y : DataW Unit × List MemPlace} (h : boolR v = some y) : ∃ c, v = .bool c := by
  unfold boolR plainElem at h
  rw [Tryz.underlying4] at h
  cases v <;> simp at h
  exact ⟨_, rfl⟩
/-- A reading of a map that says which numbers are there. -/
def SetD (D : DataW Unit) (ys : List Int) : Prop := IsMap D ∧ (∀ x : Int, D.atKey (.int .i64 x) (.lit (.bool false)) = .lit (.bool (hasB ys x))) ∧ ∀ x : Int, has D (.int .i64 x) = hasB ys x
theorem SetD.nil : SetD (.map []) [] := ⟨isMap_empty, fun _ => rfl, fun _ => rfl⟩
theorem hasB_snoc (ys : List Int) (y x : Int) : hasB (ys ++ [y]) x = (hasB ys x || y == x) := by simp [hasB]
theorem SetD.put {D : DataW Unit} {ys : List Int} (h : SetD D ys) (y : Int) : SetD (D.put (.int .i64 y) (.lit (.bool true))) (ys ++ [y]) := by
  refine ⟨h.1.put _ _, fun x => ?_, fun x => ?_⟩
  · by_cases e : x = y
    · subst e
      rw [atKey_put_same h.1 (by trivial), hasB_snoc]
      simp
    · rw [atKey_put_other (by simpa using e), h.2.1, hasB_snoc]
      simp [Ne.symm e]
  · by_cases e : x = y
    · subst e
      rw [has_put_same h.1 (by trivial), hasB_snoc]
      simp
    · rw [has_put_other (by simpa using e), h.2.2, hasB_snoc]
      simp [Ne.symm e]
/-- A set in memory. -/
def SetAt (w : World) (b n : Nat) (ys : List Int) : Prop := ∃ D : DataW Unit, w.ownsMap Tryz.prog 3 boolR b n D ∧ SetD D ys
theorem own_map_block {w w' : World} {b n : Nat} {D : DataW Unit} (h : w.ownsMap Tryz.prog 3 boolR b n D) (hb : w'.heap[b]? = w.heap[b]?) : w'.ownsMap Tryz.prog 3 boolR b n D := by
  obtain ⟨es, clock, h1, h2⟩ := h
  exact ⟨es, clock, hb.trans h1, h2⟩
theorem SetAt.block {w w' : World} {b n : Nat} {ys : List Int} (h : SetAt w b n ys) (hb : w'.heap[b]? = w.heap[b]?) : SetAt w' b n ys := by
  obtain ⟨D, h1, h2⟩ := h
  exact ⟨D, own_map_block h1 hb, h2⟩
theorem SetAt.lt {w : World} {b n : Nat} {ys : List Int} (h : SetAt w b n ys) : b < w.heap.size := by
  obtain ⟨D, h1, h2⟩ := h
  exact h1.lt
theorem SetAt.look {w : World} {b n : Nat} {ys : List Int} (h : SetAt w b n ys) (x : Int) (hx : (Lit.int .i64 x).wf = true) : (Instr.lookup 234 (.map (some b)) (.int .i64 x) false).run Tryz.prog w = .ok (.bool (hasB ys x)) w := by
  obtain ⟨D, hown, hD⟩ := h
  obtain ⟨v, ps, hrun, hv⟩ := hown.lookup keyed Tryz.underlying234 (zeroB w) (boolR_mk false) (keyOf_int_mk Tryz.underlying3 hx)
  rw [hD.2.1 x] at hv
  obtain ⟨c, rfl⟩ := boolR_inv hv
  rw [boolR_mk] at hv
  injection hv with hv
  injection hv with hv _
  injection hv with hv
  injection hv with hv
  rw [hrun, hv]
def RetSet (is : List Int) (w : World) (e : Ending) (w' : World) : Prop := e = .returned (.map (some w.heap.size)) ∧ SetAt w' w.heap.size is.length is ∧ Below w.heap.size w w'
set_option maxHeartbeats 400000 in
theorem set_any (A : Option Addr) (is : List Int) (c : Nat) (w : World) (hc : is.length ≤ c) (hl : is.length ≤ 140737488355328) (h : Sees w A (is.map i64v)) (hwf : ∀ x ∈ is, (Lit.int .i64 x).wf = true) :
    Calls Tryz.prog 168 #[.slice A is.length c] w (RetSet is w) := by
  have H := Lib.hid h
  have HWF := Lib.hid hwf
  have hmm := @run_makeMap Tryz.prog
  clear h hwf
  go_enter Tryz.func168, Tryz.ntmps168
  go_wp2
  go_loopw [9] (fun s wr => ∃ (k : Nat) (D : DataW Unit), s = .int .i64 (k : Int) ∧ k ≤ is.length ∧ wr.ownsMap Tryz.prog 3 boolR w.heap.size k D ∧ SetD D (is.take k) ∧ Below w.heap.size w wr) (fun s _ => is.length - (intOf s).toNat)
  case atStart => exact ⟨0, _, rfl, Nat.zero_le _, World.ownsMap_made _ _ _ _, SetD.nil, (Below.refl _ w).alloc (Nat.le_refl _) _⟩
  case round =>
    obtain ⟨k, D, rfl, hk, hown, hD, hb⟩ := hrel
    have HOW := Lib.hid hown
    have HD := Lib.hid hD
    have HB := Lib.hid hb
    by_cases hlt : k < is.length
    · obtain ⟨ad, rfl, hcell⟩ := ints_at (H.out.below hb) k hlt
      have hki : (k : Int) < (is.length : Int) := by omega
      have HX := Lib.hid (HWF.out is[k] (List.getElem_mem hlt))
      have HT : Hid (is.take (k + 1) = is.take k ++ [is[k]]) := Lib.hid (by rw [List.take_succ_eq_append_getElem hlt])
      obtain ⟨x, hx⟩ : ∃ x, is[k] = x := ⟨_, rfl⟩
      rw [hx] at hcell HX HT
      clear hx hown hD hb
      go_wp2_with (first
        | (at_mapUpdate; refine wpList_mapUpdate_own _ rfl _ _ _ 234 rfl 3 4 keyed Tryz.underlying234 _ w.heap.size k D rfl HOW.out (by simp only [maxLen]; omega) _ _ _ rfl rfl (keyOf_int_mk Tryz.underlying3 HX.out) _ [] (boolR_mk true) ?_; intro w1 hown1 hgrow1)
        | fail)
      go_roundw
      case rel => exact ⟨k + 1, _, by go_num, by omega, hown1, by rw [HT.out]; exact HD.out.put x, HB.out.grown hgrow1 HB.out.size (fun k hk => by cases hk; exact Nat.le_refl _)⟩
      case measure => simp [intOf]; omega
    · obtain rfl : k = is.length := by omega
      have hki : ¬ ((is.length : Int) < (is.length : Int)) := by omega
      clear hown hD hb
      go_wp2
      go_ret
      have hd := HD.out
      rw [List.take_length] at hd
      exact ⟨rfl, ⟨_, HOW.out, hd⟩, HB.out⟩
/-- How many of the list that are through and in the other one. -/
def doneN (sv ys : List Int) (left : Lit → Bool) : Nat := (sv.filter fun z => !left (.int .i64 z) && hasB ys z).length
theorem doneN_step (ys : List Int) (left : Lit → Bool) (x : Int) (hx : left (.int .i64 x) = true) (sv : List Int) (hnd : sv.Nodup) :
    doneN sv ys (fun z => left z && !z.sameKey (.int .i64 x)) = doneN sv ys left + if x ∈ sv ∧ hasB ys x = true then 1 else 0 := by
  have hp : ∀ z : Int, z ≠ x → (!(left (.int .i64 z) && !(Lit.int .i64 z).sameKey (.int .i64 x)) && hasB ys z) = (!left (.int .i64 z) && hasB ys z) := fun z hz => by simp [Lit.sameKey, hz]
  have hq : (!(left (.int .i64 x) && !(Lit.int .i64 x).sameKey (.int .i64 x)) && hasB ys x) = hasB ys x := by simp [Lit.sameKey]
  unfold doneN
  induction sv with
  | nil => simp
  | cons y l ih =>
    have hn := List.nodup_cons.1 hnd
    have ih := ih hn.2
    rw [List.filter_cons, List.filter_cons]
    by_cases e : y = x
    · subst e
      rw [hq, List.filter_congr (fun z hz => hp z (fun e => hn.1 (e ▸ hz)))]
      cases hh : hasB ys y <;> simp [hx]
    · rw [hp y e]
      have e' : x ≠ y := fun h => e h.symm
      split
      · rw [List.length_cons, List.length_cons, ih]
        simp only [List.mem_cons, e', false_or]
        omega
      · rw [ih]
        simp only [List.mem_cons, e', false_or]
theorem doneN_zero {sv ys : List Int} {left : Lit → Bool} (h : ∀ z ∈ sv, left (.int .i64 z) = true) : doneN sv ys left = 0 := by
  unfold doneN
  rw [List.length_eq_zero_iff, List.filter_eq_nil_iff]
  intro z hz
  simp [h z hz]
theorem doneN_all {sv ys : List Int} {left : Lit → Bool} (h : ∀ kl, left kl = false) : doneN sv ys left = (sv.filter fun z => hasB ys z).length := by
  unfold doneN
  congr 2
  funext z
  simp [h]
theorem doneN_le (sv ys : List Int) (left : Lit → Bool) : doneN sv ys left ≤ sv.length := List.length_filter_le _ _
theorem hasB_mem {l : List Int} {x : Int} : hasB l x = true ↔ x ∈ l := by
  unfold hasB
  rw [List.any_eq_true]
  constructor
  · rintro ⟨y, hy, e⟩
    simp at e
    exact e ▸ hy
  · exact fun h => ⟨x, h, by simp⟩
def commonN (sv ys : List Int) : Nat := (sv.filter fun z => hasB ys z).length
set_option maxHeartbeats 1000000 in
theorem count_any (A B : Option Addr) (sv ys : List Int) (c d : Nat) (w : World) (hc : sv.length ≤ c) (hd : ys.length ≤ d) (hl : sv.length ≤ 140737488355328) (hl2 : ys.length ≤ 140737488355328) (hA : Sees w A (sv.map i64v)) (hB : Sees w B (ys.map i64v))
    (hwf : ∀ x ∈ sv, (Lit.int .i64 x).wf = true) (hwf2 : ∀ x ∈ ys, (Lit.int .i64 x).wf = true) (hnd : sv.Nodup) :
    Calls Tryz.prog 154 #[.slice A sv.length c, .slice B ys.length d] w fun e w' => e = .returned (.int .i64 (commonN sv ys : Int)) ∧ Below w.heap.size w w' := by
  have HA := Lib.hid hA
  have HB := Lib.hid hB
  have HWA := Lib.hid hwf
  have HWB := Lib.hid hwf2
  have HND := Lib.hid hnd
  clear hA hB hwf hwf2 hnd
  go_enter Tryz.func154, Tryz.ntmps154
  go_wp2_with fail
  refine (set_any B ys d w hd hl2 HB.out HWB.out).mono ?_
  rintro e w1 ⟨rfl, hs1, hb1⟩
  have HS1 := Lib.hid hs1
  have HB1 := Lib.hid hb1
  clear hs1 hb1
  go_wp2_with fail
  refine (set_any A sv c w1 hc hl (HA.out.below HB1.out) HWA.out).mono ?_
  rintro e w2 ⟨rfl, ⟨D, hown2, hD⟩, hb2⟩
  have HS2 := Lib.hid (HS1.out.block (hb2.block w.heap.size HS1.out.lt))
  have HB2 := Lib.hid (below_step HB1.out HB1.out.size hb2)
  have HD := Lib.hid hD
  have hne : w.heap.size ≠ w1.heap.size := by have := HS1.out.lt; omega
  have HZ := Lib.hid (show w.heap.size < w2.heap.size from HS2.out.lt)
  clear hb2 hD
  go_wp2_with (first
    | (at_range; refine wpList_range_own _ rfl _ 234 rfl 3 4 keyed Tryz.underlying234 _ w1.heap.size sv.length D rfl hown2 ?_; intro w3 hrg3 hg3 hs3)
    | fail)
  have HRG := Lib.hid hrg3
  have HG3 := Lib.hid hg3
  obtain ⟨r, hr⟩ : ∃ r, w2.heap.size = r := ⟨_, rfl⟩
  rw [hr] at HRG HZ ⊢
  have HR := Lib.hid hr
  have HS3 := Lib.hid hs3
  clear hrg3 hg3 hs3 hown2 hr
  go_frame
  go_loopw [5] (fun s wr => ∃ (left : Lit → Bool) (cnt : Nat), s = .int .i64 (doneN sv ys left : Int) ∧ wr.ranges Tryz.prog 3 boolR w1.heap.size r sv.length D left cnt ∧ (∀ z, left z = true → has D z = true) ∧ SetAt wr w.heap.size ys.length ys ∧ Below w.heap.size w wr) (fun _ wr => wr.rangeLeft w1.heap.size r)
  case atStart =>
    refine ⟨_, _, ?_, HRG.out, fun _ h => h, HS2.out.block (HG3.out.block _ (by rw [HR.out]; exact HZ.out) (by simp)), ?_⟩
    · rw [doneN_zero (fun z hz => by rw [HD.out.2.2 z]; exact hasB_mem.2 hz)]
      rfl
    · exact HB2.out.grown HG3.out HB2.out.size (fun k hk => by cases hk)
  case round =>
    obtain ⟨left, cnt, rfl, hrg, hlt, hset, hbw⟩ := hrel
    have HRG' := Lib.hid hrg
    have HLT := Lib.hid hlt
    have HSET := Lib.hid hset
    have HBW := Lib.hid hbw
    have hdn := doneN_le sv ys left
    clear hrg hlt hset hbw HRG
    go_wp2_with (first
      | (at_next; refine wpList_next_ranges (α := Int) (β := Value) _ rfl _ rfl 3 keyed boolR (Value.int .i64) (fun v => v) (fun key kl hkey => by obtain ⟨x, rfl, _⟩ := keyOf_int_inv Tryz.underlying3 hkey; exact ⟨x, rfl⟩) (fun v y hv => ⟨v, rfl⟩) w1.heap.size r sv.length D left cnt rfl HRG'.out ?_ ?_)
      | fail)
    · intro _ hl0
      have HL0 := Lib.hid hl0
      clear hl0
      go_wp2
      go_ret
      exact ⟨by rw [doneN_all HL0.out]; rfl, HBW.out⟩
    · intro x cb kl y1 y2 w4 cnt4 hkey hleft hv hat hrg4 hlt4 hg4 hs4 hen
      obtain ⟨x', ex, rfl, hwx⟩ := keyOf_int_inv Tryz.underlying3 hkey
      cases ex
      have hmem : x ∈ sv := by
        have := HLT.out _ hleft
        rw [HD.out.2.2 x] at this
        exact hasB_mem.1 this
      have hset4 : SetAt w4 w.heap.size ys.length ys := HSET.out.block (hg4.block _ HSET.out.lt (by simp; exact Nat.ne_of_lt HZ.out))
      have hlook := hset4.look x hwx
      have hst := doneN_step ys left x hleft sv HND.out
      have HSTEP : Hid (doneN sv ys (fun z => left z && !z.sameKey (.int .i64 x)) = doneN sv ys left + if hasB ys x = true then 1 else 0) := Lib.hid (by rw [hst]; simp [hmem])
      have HB4 := Lib.hid (HBW.out.grown hg4 HBW.out.size (fun k hk => by cases hk; exact Nat.le_of_lt HZ.out))
      have HS4 := Lib.hid hset4
      have HRG4 := Lib.hid hrg4
      have HLT4 : Hid (∀ z, (left z && !z.sameKey (.int .i64 x)) = true → has D z = true) := Lib.hid fun z hz => HLT.out z (by simp only [Bool.and_eq_true] at hz; exact hz.1)
      have HC : Hid (cnt4 < cnt) := Lib.hid hlt4
      clear hset4 hst hrg4 hg4 hs4 hv hat hkey hlt4 hmem hleft
      have hdi : (doneN sv ys left : Int) ≤ 140737488355328 := by omega
      cases hh : hasB ys x with
      | true =>
        rw [hh] at hlook HSTEP
        go_wp2
        go_roundw
        case rel => exact ⟨_, cnt4, by rw [HSTEP.out]; rw [if_pos rfl]; go_num, HRG4.out, HLT4.out, HS4.out, HB4.out⟩
        case measure => rw [HRG4.out.left_eq, HRG'.out.left_eq]; exact HC.out
      | false =>
        rw [hh] at hlook HSTEP
        go_wp2
        go_roundw
        case rel => exact ⟨_, cnt4, by rw [HSTEP.out]; simp, HRG4.out, HLT4.out, HS4.out, HB4.out⟩
        case measure => rw [HRG4.out.left_eq, HRG'.out.left_eq]; exact HC.out
end Go.Proofs.YtoongmoajnedlaaGreat.C
