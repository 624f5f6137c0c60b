/-
  Plain: calls that a log answered one behind the other.
-/
import Derived.Test.YtbnbeailbhnbdaaMoreP
import Derived.Test.YtbnbeailbhnbdaaMods
set_option linter.unusedVariables false
set_option linter.unusedSimpArgs false
namespace Go.Proofs.Ytbnbeailbhnbdaa
open Go.RowKit

/-- The model behind a call. -/
def opF (o : OpM) (m : Nat × List (List UInt8)) : Nat × List (List UInt8) :=
  if o.1 = 0 then (m.1, m.2 ++ [o.2.2.2]) else if o.1 = 1 then (clampN o.2.1 m.1 m.2.length, m.2.drop (clampN o.2.1 m.1 m.2.length - m.1)) else m
def opM (os : List OpM) : Nat → Nat × List (List UInt8)
  | 0 => (0, [])
  | k + 1 => opF (os.getD k (0, 0, 0, [])) (opM os k)
/-- How wide. -/
def wideW (ws : List Int) (i : Nat) : Int := if i < ws.length then ((ws.getD i 0).tmod 9 + 9).tmod 9 else 0
/-- The call that is made of it. -/
def made1 (o : OpM) (m : Nat × List (List UInt8)) (i : Nat) (w : Int) : Full :=
  if o.1 = 0 then (⟨i, max 0 (10 * i - w * 7), 10 * i + 1 + w * 7, 1, 0, true, 0, 0, ((m.1 + m.2.length : Nat) : Int), 0, .slice none 0 0, .slice none 0 0⟩, o.2.2.2, [])
  else if o.1 = 1 then (⟨i, max 0 (10 * i - w * 7), 10 * i + 1 + w * 7, 3, 0, true, o.2.1, 0, 0, ((clampN o.2.1 m.1 m.2.length : Nat) : Int), .slice none 0 0, .slice none 0 0⟩, o.2.2.2, [])
  else (⟨i, max 0 (10 * i - w * 7), 10 * i + 1 + w * 7, 2, 0, true, m.1, max o.2.2.1 0, ((m.1 + m.2.length : Nat) : Int), m.1, .slice none 0 0, .slice none 0 0⟩, o.2.2.2, getL m.1 (max o.2.2.1 0) m.1 m.2)
def madeAt (os : List OpM) (ws : List Int) (i : Nat) : Full := made1 (os.getD i (0, 0, 0, [])) (opM os i) i (wideW ws i)
def madeL (os : List OpM) (ws : List Int) (n : Nat) : List Full := (List.range n).map (madeAt os ws)
def upTo (n : Nat) : List Int := (List.range n).map fun (k : Nat) => (k : Int)
theorem madeL_length (os : List OpM) (ws : List Int) (n : Nat) : (madeL os ws n).length = n := by simp [madeL]
theorem upTo_length (n : Nat) : (upTo n).length = n := by simp [upTo]
theorem upTo_get {n i : Nat} (hi : i < n) : (upTo n).getD i 0 = (i : Int) := by
  unfold upTo
  rw [List.getD_eq_getElem?_getD, List.getElem?_map, List.getElem?_range hi]
  rfl
theorem madeL_at {os : List OpM} {ws : List Int} {n i : Nat} (hi : i < n) : atF (madeL os ws n) (i : Int) = madeAt os ws i := by
  unfold atF madeL
  rw [Int.toNat_natCast, List.getD_eq_getElem?_getD, List.getElem?_map, List.getElem?_range hi]
  rfl
theorem wide_in (ws : List Int) (i : Nat) : 0 ≤ wideW ws i ∧ wideW ws i ≤ 8 := by
  unfold wideW
  split
  · have h1 := Int.tmod_lt_of_pos (ws.getD i 0) (show (0 : Int) < 9 by decide)
    have h2 : -9 < (ws.getD i 0).tmod 9 := Int.lt_tmod_of_pos (ws.getD i 0) (show (0 : Int) < 9 by decide)
    have h3 : 0 ≤ (ws.getD i 0).tmod 9 + 9 := by omega
    rw [Int.tmod_eq_emod_of_nonneg h3]
    omega
  · omega
theorem made_kind (o : OpM) (m : Nat × List (List UInt8)) (i : Nat) (w : Int) : (made1 o m i w).1.client = (i : Int) ∧ (made1 o m i w).1.beg = max 0 (10 * (i : Int) - w * 7) ∧ (made1 o m i w).1.fin = 10 * (i : Int) + 1 + w * 7 ∧ (made1 o m i w).1.ans = true ∧ (made1 o m i w).1.place = 0 ∧ 1 ≤ (made1 o m i w).1.kind ∧ (made1 o m i w).1.kind ≤ 3 := by
  unfold made1
  split
  · exact ⟨rfl, rfl, rfl, rfl, rfl, by dsimp only; omega, by dsimp only; omega⟩
  · split
    · exact ⟨rfl, rfl, rfl, rfl, rfl, by dsimp only; omega, by dsimp only; omega⟩
    · exact ⟨rfl, rfl, rfl, rfl, rfl, by dsimp only; omega, by dsimp only; omega⟩
/-- The call steps the model as the log did, and fits. -/
theorem made_step (o : OpM) (m : Nat × List (List UInt8)) (i : Nat) (w : Int) : (fitF (made1 o m i w).1 m.1 m.2, fitL (made1 o m i w).1 (made1 o m i w).2.1 m.1 m.2) = opF o m ∧ fitOK (made1 o m i w).1 (made1 o m i w).2.2 m.1 m.2 = true := by
  unfold made1 opF fitF fitL fitOK
  by_cases h0 : o.1 = 0
  · simp only [h0, if_true]
    simp
  · by_cases h1 : o.1 = 1
    · simp only [h1]
      simp
    · simp only [if_neg h0, if_neg h1]
      simp
      unfold getOK
      simp
      omega
/-- The same call but for what it was told. -/
def TellC (c d : CV) : Prop := d.client = c.client ∧ d.beg = c.beg ∧ d.fin = c.fin ∧ d.kind = c.kind ∧ d.place = c.place ∧ d.ans = c.ans ∧ d.frm = c.frm ∧ d.most = c.most
section
variable {os : List OpM} {ws : List Int} {n : Nat} {ys : List Full}
/-- Calls in the order in which they were done, whatever they were told: all but the answers are right. -/
theorem made_front (hn : n ≤ 60) (hl : ys.length = n) (h : ∀ i : Nat, i < n → TellC (madeAt os ws i).1 (atF ys (i : Int)).1) : rightC (cvs ys) = true ∧ ordP ys.length (upTo n) ∧ ansP (cvs ys) (upTo n) ∧ lateP (cvs ys) (upTo n) := by
  have hc : ∀ i : Nat, i < n → ∃ w : Int, 0 ≤ w ∧ w ≤ 8 ∧ (atF ys (i : Int)).1.client = (i : Int) ∧ (atF ys (i : Int)).1.beg = max 0 (10 * (i : Int) - w * 7) ∧ (atF ys (i : Int)).1.fin = 10 * (i : Int) + 1 + w * 7 ∧ (atF ys (i : Int)).1.ans = true ∧ (atF ys (i : Int)).1.place = 0 ∧ 1 ≤ (atF ys (i : Int)).1.kind ∧ (atF ys (i : Int)).1.kind ≤ 3 := by
    intro i hi
    obtain ⟨h1, h2, h3, h4, h5, h6, h7, h8⟩ := h i hi
    obtain ⟨k1, k2, k3, k4, k5, k6, k7⟩ := made_kind (os.getD i (0, 0, 0, [])) (opM os i) i (wideW ws i)
    have hw := wide_in ws i
    exact ⟨wideW ws i, hw.1, hw.2, h1.trans k1, h2.trans k2, h3.trans k3, h6.trans k4, h5.trans k5, by rw [h4]; exact k6, by rw [h4]; exact k7⟩
  refine ⟨?_, ?_, ?_, ?_⟩
  · rw [right_eq]
    refine rightQ_true (by rw [cvs_length]; omega) (fun i hi => ?_)
    rw [cvs_length, hl] at hi
    obtain ⟨w, w1, w2, c1, c2, c3, c4, c5, c6, c7⟩ := hc i hi
    refine oneQ_true ?_ (fun k hk => ?_)
    · rw [← atF_fst]
      unfold aloneB endsB
      rw [c4]
      simp only [Bool.not_true, Bool.false_or, Bool.and_eq_true, decide_eq_true_eq]
      unfold aloneP
      rw [c1, c2, c3, c5]
      omega
    · rw [cvs_length, hl] at hk
      obtain ⟨_, _, _, d1, _⟩ := hc k hk
      rw [pairQ_iff]
      intro hne he
      rw [← atF_fst, ← atF_fst, c1, d1] at he
      omega
  · intro i hi
    rw [upTo_length] at hi
    refine ordOK_iff.2 ?_
    rw [upTo_get hi, hl]
    refine ⟨by omega, by omega, fun hm => ?_⟩
    obtain ⟨j, hj, e⟩ := List.getElem_of_mem hm
    rw [List.length_take, upTo_length] at hj
    rw [List.getElem_take] at e
    have h9 := upTo_get (n := n) (i := j) (by omega)
    rw [getD_of (by rw [upTo_length]; omega), e] at h9
    omega
  · intro k hk
    rw [cvs_length, hl] at hk
    unfold ansOK
    have h9 : (upTo n).contains (k : Int) = true := by
      simp only [List.contains_iff_mem]
      exact List.mem_map.2 ⟨k, List.mem_range.2 hk, rfl⟩
    rw [h9, Bool.or_true]
  · intro i hi
    rw [upTo_length] at hi
    unfold lateOK
    rw [List.all_eq_true]
    intro o ho
    obtain ⟨j, hj, rfl⟩ := List.getElem_of_mem ho
    rw [List.length_drop, upTo_length] at hj
    rw [List.getElem_drop]
    have h9 := upTo_get (n := n) (i := i + 1 + j) (by omega)
    rw [getD_of (by rw [upTo_length]; omega)] at h9
    rw [h9, upTo_get hi, ← atF_fst, ← atF_fst]
    obtain ⟨w, w1, w2, c1, c2, c3, c4, c5, c6, c7⟩ := hc i hi
    obtain ⟨v, v1, v2, d1, d2, d3, d4, d5, d6, d7⟩ := hc (i + 1 + j) (by omega)
    rw [d4, c2, d3]
    simp only [Bool.not_true, Bool.false_or, decide_eq_true_eq]
    omega
end
/-- Own copies of the calls as they were made. -/
theorem made_run {os : List OpM} {ws : List Int} {n : Nat} {ys : List Full} (h : ∀ i : Nat, i < n → (atF ys (i : Int)).1.kind = (madeAt os ws i).1.kind ∧ (atF ys (i : Int)).1.frm = (madeAt os ws i).1.frm ∧ (atF ys (i : Int)).2.1 = (madeAt os ws i).2.1) : ∀ k, k ≤ n → runM ys (upTo n) k = opM os k
  | 0, _ => rfl
  | k + 1, hk => by
    have ih := made_run h k (by omega)
    obtain ⟨h1, h2, h3⟩ := h k (by omega)
    simp only [runM, opM]
    rw [ih, upTo_get (by omega), ← (made_step (os.getD k (0, 0, 0, [])) (opM os k) k (wideW ws k)).1]
    unfold fitF fitL
    rw [h1, h2, h3]
    rfl
theorem made_legal {os : List OpM} {ws : List Int} {n : Nat} {ys : List Full} (hn : n ≤ 60) (hl : ys.length = n) (h : ∀ i : Nat, i < n → SameF (madeAt os ws i) (atF ys (i : Int))) : LegalIs ys (upTo n) 0 0 := by
  obtain ⟨a1, a2, a3, a4⟩ := made_front (os := os) (ws := ws) hn hl (fun i hi => by rw [(h i hi).2]; exact ⟨rfl, rfl, rfl, rfl, rfl, rfl, rfl, rfl⟩)
  have hr := made_run (os := os) (ws := ws) (n := n) (ys := ys) (fun i hi => by rw [(h i hi).2, (h i hi).1]; exact ⟨rfl, rfl, rfl⟩)
  refine .inr ⟨a1, .inr ⟨a2, .inr ⟨a3, .inr ⟨a4, .inr ⟨fun j hj => ?_, rfl, rfl⟩⟩⟩⟩⟩
  rw [upTo_length] at hj
  unfold fitAt
  rw [hr j (by omega), upTo_get hj]
  have h9 := (made_step (os.getD j (0, 0, 0, [])) (opM os j) j (wideW ws j)).2
  have h8 := h j hj
  have h7 : fitOK (atF ys (j : Int)).1 (atF ys (j : Int)).2.2 (opM os j).1 (opM os j).2 = true := by
    rw [h8.2, h8.1]
    exact h9
  rw [h7]
  rfl
/-- With one answer changed. -/
def turned (x : Full) : Full := if x.1.kind = 3 then ({ x.1 with start := x.1.start + 1 }, x.2) else ({ x.1 with number := x.1.number + 1 }, x.2)
theorem made_turned (o : OpM) (m : Nat × List (List UInt8)) (i : Nat) (w : Int) : fitOK (turned (made1 o m i w)).1 (turned (made1 o m i w)).2.2 m.1 m.2 = false := by
  unfold turned made1 fitOK
  by_cases h0 : o.1 = 0
  · simp [h0]
    omega
  · by_cases h1 : o.1 = 1
    · simp [h1]
      omega
    · simp [h0, h1]
      intro _ h9
      omega
theorem turned_tell (x : Full) : TellC x.1 (turned x).1 ∧ (turned x).2 = x.2 := by
  unfold turned
  split
  · exact ⟨⟨rfl, rfl, rfl, rfl, rfl, rfl, rfl, rfl⟩, rfl⟩
  · exact ⟨⟨rfl, rfl, rfl, rfl, rfl, rfl, rfl, rfl⟩, rfl⟩
theorem made_wrong {os : List OpM} {ws : List Int} {n k : Nat} {ys : List Full} (hn : n ≤ 60) (hk : k < n) (hl : ys.length = n) (h : ∀ i : Nat, i < n → i ≠ k → SameF (madeAt os ws i) (atF ys (i : Int))) (hkk : SameF (turned (madeAt os ws k)) (atF ys (k : Int))) : LegalIs ys (upTo n) (k : Int) 51 := by
  obtain ⟨t1, t2⟩ := turned_tell (madeAt os ws k)
  obtain ⟨a1, a2, a3, a4⟩ := made_front (os := os) (ws := ws) hn hl (fun i hi => by
    by_cases e : i = k
    · subst e
      rw [hkk.2]
      exact t1
    · rw [(h i hi e).2]; exact ⟨rfl, rfl, rfl, rfl, rfl, rfl, rfl, rfl⟩)
  have hr := made_run (os := os) (ws := ws) (n := n) (ys := ys) (fun i hi => by
    by_cases e : i = k
    · subst e
      obtain ⟨_, _, _, u4, _, _, u7, _⟩ := t1
      rw [hkk.2, hkk.1, t2]
      exact ⟨u4, u7, rfl⟩
    · rw [(h i hi e).2, (h i hi e).1]; exact ⟨rfl, rfl, rfl⟩)
  refine .inr ⟨a1, .inr ⟨a2, .inr ⟨a3, .inr ⟨a4, .inl ⟨k, by rw [upTo_length]; exact hk, ?_, fun j hj => ?_, rfl, rfl⟩⟩⟩⟩⟩
  · unfold fitAt
    rw [hr k (by omega), upTo_get hk]
    have h9 := made_turned (os.getD k (0, 0, 0, [])) (opM os k) k (wideW ws k)
    have h7 : fitOK (atF ys (k : Int)).1 (atF ys (k : Int)).2.2 (opM os k).1 (opM os k).2 = false := by
      rw [hkk.2, hkk.1]
      exact h9
    have h6 : (atF ys (k : Int)).1.ans = true := by
      rw [hkk.2]
      have := t1.2.2.2.2.2.1
      rw [this]
      exact (made_kind (os.getD k (0, 0, 0, [])) (opM os k) k (wideW ws k)).2.2.2.1
    rw [h7, h6]
    rfl
  · have hjn : j < n := by omega
    unfold fitAt
    rw [hr j (by omega), upTo_get hjn]
    have h9 := (made_step (os.getD j (0, 0, 0, [])) (opM os j) j (wideW ws j)).2
    have h8 := h j hjn (by omega)
    have h7 : fitOK (atF ys (j : Int)).1 (atF ys (j : Int)).2.2 (opM os j).1 (opM os j).2 = true := by
      rw [h8.2, h8.1]
      exact h9
    rw [h7]
    rfl
end Go.Proofs.Ytbnbeailbhnbdaa
