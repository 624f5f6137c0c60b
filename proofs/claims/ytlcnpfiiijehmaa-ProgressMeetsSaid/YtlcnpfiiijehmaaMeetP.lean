/-
  The plain law of ProgressMeets: one turn brings the other log nearer.
-/
import Derived.Test.YtlcnpfiiijehmaaDo
import Derived.Test.YtlcnpfiiijehmaaHeard
set_option linter.unusedVariables false
set_option linter.unusedSimpArgs false
namespace Go.Proofs.Ytlcnpfiiijehmaa
open Go.RowKit

theorem rowB_cons {i t : Int} {y : Ent} {r : List Ent} (h : rowB i t (y :: r) = true) : rightE y = true ∧ y.index = i + 1 ∧ t ≤ y.term ∧ rowB (i + 1) y.term r = true := by
  simp only [rowB, Bool.and_eq_true, beq_iff_eq, decide_eq_true_eq] at h
  exact ⟨h.1.1.1, h.1.1.2, h.1.2, h.2⟩
theorem rowB_take : ∀ (k : Nat) {i t : Int} {l : List Ent}, rowB i t l = true → rowB i t (l.take k) = true
  | 0, _, _, _, _ => by simp [rowB]
  | k + 1, i, t, [], _ => by simp [rowB]
  | k + 1, i, t, y :: r, h => by
    obtain ⟨h1, h2, h3, h4⟩ := rowB_cons h
    have := rowB_take k h4
    rw [List.take_succ_cons, rowB_good h1 h2 h3, h2]
    exact this
/-- The term behind k entries. -/
def lastT (t : Int) (l : List Ent) (k : Nat) : Int := if k = 0 then t else (l.getD (k - 1) e0).term
theorem rowB_drop : ∀ (k : Nat) {i t : Int} {l : List Ent}, rowB i t l = true → k ≤ l.length → rowB (i + (k : Int)) (lastT t l k) (l.drop k) = true
  | 0, i, t, l, h, _ => by simpa [lastT] using h
  | k + 1, i, t, [], _, hk => by simp at hk
  | k + 1, i, t, y :: r, h, hk => by
    obtain ⟨h1, h2, h3, h4⟩ := rowB_cons h
    have h5 := rowB_drop k h4 (by simp at hk; omega)
    rw [List.drop_succ_cons]
    have e1 : i + 1 + (k : Int) = i + ((k + 1 : Nat) : Int) := by omega
    rw [e1] at h5
    have e2 : lastT y.term r k = lastT t (y :: r) (k + 1) := by
      unfold lastT
      cases k with
      | zero => simp
      | succ k => simp
    rw [e2] at h5
    exact h5
theorem rowB_app : ∀ {i t : Int} {l l2 : List Ent}, rowB i t l = true → rowB (i + (l.length : Int)) (lastT t l l.length) l2 = true → rowB i t (l ++ l2) = true
  | i, t, [], l2, _, h2 => by simpa [lastT] using h2
  | i, t, y :: r, l2, h, h2 => by
    obtain ⟨g1, g2, g3, g4⟩ := rowB_cons h
    rw [List.cons_append, rowB_good g1 g2 g3, g2]
    refine rowB_app g4 ?_
    have e1 : i + 1 + (r.length : Int) = i + ((y :: r).length : Int) := by simp; omega
    have e2 : lastT y.term r r.length = lastT t (y :: r) (y :: r).length := by
      unfold lastT
      cases r with
      | nil => simp
      | cons z s => simp
    rw [e1, e2]
    exact h2
theorem filter_ahead {l : List Ent} (h : rowB 0 0 l = true) (k : Nat) : (l.filter fun x => decide ((k : Int) + 1 ≤ x.index)) = l.drop k := by
  conv => lhs; arg 2; rw [← List.take_append_drop k l]
  rw [List.filter_append]
  have e1 : (l.take k).filter (fun x => decide ((k : Int) + 1 ≤ x.index)) = [] := by
    rw [List.filter_eq_nil_iff]
    intro x hx
    obtain ⟨j, hj, rfl⟩ := List.getElem_of_mem hx
    have hj2 : j < k := by rw [List.length_take] at hj; omega
    have := rowB_index (rowB_take k h) j _ (List.getElem?_eq_getElem hj)
    simp only [decide_eq_true_eq]
    omega
  have e2 : (l.drop k).filter (fun x => decide ((k : Int) + 1 ≤ x.index)) = l.drop k := by
    rw [List.filter_eq_self]
    intro x hx
    obtain ⟨j, hj, rfl⟩ := List.getElem_of_mem hx
    have hjl : k + j < l.length := by rw [List.length_drop] at hj; omega
    have := rowB_index h (k + j) (l.drop k)[j] (by rw [← List.getElem?_drop, List.getElem?_eq_getElem hj])
    simp only [decide_eq_true_eq]
    omega
  rw [e1, e2, List.nil_append]
/-- The leader's log: right, of even terms. -/
structure LdOK (Ld : List Ent) (n : Nat) : Prop where
  len : Ld.length = n
  small : n ≤ 99
  right : rightV ⟨0, 0, Ld⟩ = true
  even : ∀ x ∈ Ld, x.term % 2 = 0
  data : SmallE Ld
/-- The two logs, and what the leader knows, at a turn. -/
def MeetI (Ld : List Ent) (n : Nat) (fl : List Ent) (a b : Int) (turn : Nat) : Prop :=
  ∃ m : Nat, m ≤ n ∧ (∃ T, fl = Ld.take m ++ T ∧ ∀ x ∈ T, x.term % 2 = 1) ∧ fl.length ≤ 200 ∧ rightV ⟨0, 0, fl⟩ = true ∧ SmallE fl ∧ 0 ≤ b ∧ b ≤ (m : Int) ∧ (m : Int) + 1 ≤ a ∧ a ≤ (n : Int) + 1 ∧ (turn : Int) + (a - 1 - (m : Int)) + ((n : Int) - b) ≤ 2 * (n : Int)
theorem MeetI.done {Ld fl : List Ent} {n turn : Nat} {a b : Int} (hL : LdOK Ld n) (h : MeetI Ld n fl a b turn) (hb : b = (n : Int)) : n ≤ fl.length ∧ fl.take n = Ld := by
  obtain ⟨m, hm, ⟨T, rfl, _⟩, _, _, _, _, h1, _⟩ := h
  obtain rfl : m = n := by omega
  have h2 := hL.len
  have e1 : Ld.take m = Ld := List.take_of_length_le (by omega)
  rw [e1]
  exact ⟨by rw [List.length_append]; omega, by rw [← h2, List.take_left]⟩
theorem right_len {v : Vw} (h : rightV v = true) : v.l.length ≤ 4096 ∧ rowB v.base v.term v.l = true := by
  obtain ⟨_, _, _, _, h1, h2⟩ := rightV_iff.1 h
  exact ⟨h1, h2⟩
theorem right_take {Ld : List Ent} {k : Nat} (h : rightV ⟨0, 0, Ld⟩ = true) : rightV ⟨0, 0, Ld.take k⟩ = true := by
  obtain ⟨h1, h2, h3, h4, h5, h6⟩ := rightV_iff.1 h
  exact rightV_iff.2 ⟨h1, h2, h3, h4, by show (Ld.take k).length ≤ 4096; have h9 : Ld.length ≤ 4096 := h5; rw [List.length_take]; omega, rowB_take k h6⟩
theorem batch_meet {Ld : List Ent} {n p : Nat} (hL : LdOK Ld n) (hp : p ≤ n) : batchV ⟨0, 0, Ld⟩ ((p : Int) + 1) = (false, (p : Int), atV ⟨0, 0, Ld⟩ (p : Int), (Ld.drop p).take 8) := by
  have hr : rowB 0 0 Ld = true := (right_len hL.right).2
  have hl : lastV ⟨0, 0, Ld⟩ = (n : Int) := by unfold lastV; rw [hL.len]; simp
  unfold batchV
  rw [hl, if_neg (by rw [hL.right]; decide), if_neg (by show ¬ (p : Int) + 1 ≤ 0; omega)]
  have e1 : min ((p : Int) + 1 - 1) (n : Int) = (p : Int) := by omega
  rw [e1]
  unfold fromL
  rw [hL.right, if_pos rfl]
  show (false, (p : Int), _, (Ld.filter fun x => decide ((p : Int) + 1 ≤ x.index)).take 8) = _
  rw [filter_ahead hr]
theorem at_zero (l : List Ent) : atV ⟨0, 0, l⟩ 0 = 0 := by unfold atV; rw [if_pos rfl]
theorem at_succ (l : List Ent) (k : Nat) : atV ⟨0, 0, l⟩ ((k : Int) + 1) = (l.getD k e0).term := by
  unfold atV
  rw [if_neg (by show ¬ (k : Int) + 1 = 0; omega)]
  have : ((k : Int) + 1 - 0 - 1).toNat = k := by omega
  show (l.getD ((k : Int) + 1 - 0 - 1).toNat e0).term = _
  rw [this]
theorem lastT_at (l : List Ent) (p : Nat) : lastT 0 l p = atV ⟨0, 0, l⟩ (p : Int) := by
  cases p with
  | zero => rw [Int.natCast_zero, at_zero]; rfl
  | succ k => rw [show ((k + 1 : Nat) : Int) = (k : Int) + 1 by omega, at_succ]; unfold lastT; simp
/-- What the try asks for. -/
theorem batch_pre {Ld : List Ent} {n p : Nat} (hL : LdOK Ld n) (hp : p ≤ n) : 0 ≤ atV ⟨0, 0, Ld⟩ (p : Int) ∧ rowB (p : Int) (atV ⟨0, 0, Ld⟩ (p : Int)) ((Ld.drop p).take 8) = true ∧ ((Ld.drop p).take 8).length ≤ 8 ∧ SmallE ((Ld.drop p).take 8) := by
  have hr : rowB 0 0 Ld = true := (right_len hL.right).2
  have h1 := rowB_drop p hr (by rw [hL.len]; exact hp)
  rw [lastT_at] at h1
  simp only [Int.zero_add] at h1
  refine ⟨?_, rowB_take 8 h1, List.length_take_le _ _, fun x hx => hL.data x (List.mem_of_mem_drop (List.mem_of_mem_take hx))⟩
  cases p with
  | zero => rw [Int.natCast_zero, at_zero]; exact Int.le_refl _
  | succ k =>
    rw [show ((k + 1 : Nat) : Int) = (k : Int) + 1 by omega, at_succ]
    have hk : k < Ld.length := by have := hL.len; omega
    rw [List.getD_eq_getElem?_getD, List.getElem?_eq_getElem hk]
    show 0 ≤ Ld[k].term
    have h2 := rowB_drop k hr (by omega)
    rw [List.drop_eq_getElem_cons hk] at h2
    obtain ⟨g1, _, _, _⟩ := rowB_cons h2
    have := (rightE_num g1).1
    omega
theorem firstL_spec : ∀ {l : List Ent} {t : Int} {k : Nat} {x : Ent}, l[k]? = some x → x.term = t → ∃ (j : Nat) (y : Ent), j ≤ k ∧ l[j]? = some y ∧ y.term = t ∧ firstL t l = y.index
  | [], _, k, _, h, _ => by simp at h
  | z :: r, t, k, x, h, ht => by
    by_cases hz : z.term = t
    · exact ⟨0, z, Nat.zero_le _, rfl, hz, by simp [firstL, hz]⟩
    · cases k with
      | zero =>
        simp at h
        subst h
        exact absurd ht hz
      | succ k =>
        obtain ⟨j, y, h1, h2, h3, h4⟩ := firstL_spec (l := r) (k := k) (by simpa using h) ht
        exact ⟨j + 1, y, by omega, by simpa using h2, h3, by simp [firstL, hz, h4]⟩
theorem getD_take {Ld T : List Ent} {m k : Nat} (hm : m ≤ Ld.length) (hk : k < m) : (Ld.take m ++ T).getD k e0 = Ld.getD k e0 := by
  rw [List.getD_eq_getElem?_getD, List.getD_eq_getElem?_getD, List.getElem?_append_left (by rw [List.length_take]; omega), List.getElem?_take, if_pos hk]
theorem get_tail {Ld T : List Ent} {m k : Nat} {x : Ent} (hm : m ≤ Ld.length) (hk : m ≤ k) (h : (Ld.take m ++ T)[k]? = some x) : x ∈ T := by
  rw [List.getElem?_append_right (by rw [List.length_take]; omega)] at h
  exact List.mem_of_getElem? h
theorem even_at {Ld : List Ent} {n k : Nat} (hL : LdOK Ld n) (hk : k < n) : (Ld.getD k e0).term % 2 = 0 := by
  have h := hL.len
  rw [List.getD_eq_getElem?_getD, List.getElem?_eq_getElem (by omega)]
  exact hL.even _ (List.getElem_mem _)
theorem heard_no {p n b at_ : Nat} (h1 : at_ ≤ p) (h2 : p ≤ n) (h3 : b ≤ at_ - 1) (h4 : 1 ≤ at_) : heardP ((p : Int) + 1) (b : Int) false (at_ : Int) (n : Int) = ((at_ : Int), (b : Int)) := by
  unfold heardP
  rw [if_neg (by omega), if_pos rfl]
  congr 1
  omega
theorem heard_yes {m n b e : Nat} (h1 : b ≤ m) (h2 : m + e ≤ n) : heardP ((m : Int) + 1) (b : Int) true ((m : Int) + (e : Int)) (n : Int) = ((m : Int) + (e : Int) + 1, (m : Int) + (e : Int)) := by
  unfold heardP
  rw [if_neg (by omega), if_neg (by decide), if_pos (by omega)]
  congr 1 <;> omega
theorem badV_zero (fl : List Ent) (x : Ent) : badV ⟨0, 0, fl⟩ x = (decide (0 < x.index) && (decide (x.index ≤ (fl.length : Int)) && !(atV ⟨0, 0, fl⟩ x.index == x.term))) := by
  unfold badV lastV
  show (decide (0 < x.index) && (decide (x.index ≤ 0 + (fl.length : Int)) && _)) = _
  rw [Int.zero_add]
theorem drop_index {Ld : List Ent} {n m j : Nat} {x : Ent} (hL : LdOK Ld n) (h : ((Ld.drop m).take 8)[j]? = some x) : x.index = (m : Int) + 1 + (j : Int) ∧ m + j < n ∧ x = Ld.getD (m + j) e0 := by
  have hr : rowB 0 0 Ld = true := (right_len hL.right).2
  have h1 : Ld[m + j]? = some x := by
    rw [List.getElem?_take] at h
    split at h
    · rwa [List.getElem?_drop] at h
    · cases h
  have h2 := rowB_index hr (m + j) x h1
  have h3 := (List.getElem?_eq_some_iff.1 h1).1
  have h4 := hL.len
  refine ⟨by show _ = _; rw [h2]; omega, by omega, ?_⟩
  rw [List.getD_eq_getElem?_getD, h1]
  rfl
/-- What comes of a try that fits: the leader's log, so far. -/
theorem fits_meet {Ld T : List Ent} {n m e : Nat} (hL : LdOK Ld n) (hm : m ≤ n) (hT : ∀ x ∈ T, x.term % 2 = 1) (hr : rightV ⟨0, 0, Ld.take m ++ T⟩ = true) (he : ((Ld.drop m).take 8).length = e) :
    (cutV ⟨0, 0, Ld.take m ++ T⟩ ((Ld.drop m).take 8) = 0 ∨ (0 < cutV ⟨0, 0, Ld.take m ++ T⟩ ((Ld.drop m).take 8) ∧ cutV ⟨0, 0, Ld.take m ++ T⟩ ((Ld.drop m).take 8) ≤ lastV ⟨0, 0, Ld.take m ++ T⟩)) ∧
    ∃ T', keepL ⟨0, 0, Ld.take m ++ T⟩ (cutV ⟨0, 0, Ld.take m ++ T⟩ ((Ld.drop m).take 8)) ++ fromA (if badI ⟨0, 0, Ld.take m ++ T⟩ ((Ld.drop m).take 8) < 0 then lastV ⟨0, 0, Ld.take m ++ T⟩ + 1 else cutV ⟨0, 0, Ld.take m ++ T⟩ ((Ld.drop m).take 8)) ((Ld.drop m).take 8) = Ld.take (m + e) ++ T' ∧ (∀ x ∈ T', x.term % 2 = 1) ∧ (T' = [] ∨ (e = 0 ∧ T' = T)) := by
  have hlen : (Ld.take m).length = m := by rw [List.length_take, hL.len]; omega
  have hll : lastV ⟨0, 0, Ld.take m ++ T⟩ = (m : Int) + (T.length : Int) := by
    unfold lastV
    simp only [List.length_append, hlen]
    omega
  obtain ⟨l, hl⟩ : ∃ l, (Ld.drop m).take 8 = l := ⟨_, rfl⟩
  have hidx : ∀ {j : Nat} {x : Ent}, l[j]? = some x → x.index = (m : Int) + 1 + (j : Int) ∧ m + j < n ∧ x = Ld.getD (m + j) e0 := fun h => drop_index hL (by rw [hl]; exact h)
  have htk : Ld.take m ++ l = Ld.take (m + e) := by
    rw [← hl]
    have h1 : ((Ld.drop m).take 8).take e = (Ld.drop m).take 8 := List.take_of_length_le (by omega)
    have h2 : e ≤ 8 := by rw [← he]; exact List.length_take_le _ _
    rw [← h1, List.take_take, Nat.min_eq_left h2, List.take_add]
  rw [hl]
  rw [hl] at he
  have hall : ∀ q : Int, q ≤ (m : Int) + 1 → fromA q l = l := by
    intro q hq
    unfold fromA
    rw [List.filter_eq_self]
    intro x hx
    obtain ⟨j, hj, rfl⟩ := List.getElem_of_mem hx
    have := (hidx (List.getElem?_eq_getElem hj)).1
    simp only [decide_eq_true_eq]
    omega
  cases T with
  | nil =>
    rw [List.append_nil] at hll hr ⊢
    have hbad : badI ⟨0, 0, Ld.take m⟩ l = -1 := badI_none (fun j y hy => by
      have h1 := (hidx hy).1
      rw [badV_zero, hlen]
      have : decide (y.index ≤ (m : Int)) = false := by simp; omega
      rw [this]
      simp)
    have hcut : cutV ⟨0, 0, Ld.take m⟩ l = 0 := by unfold cutV; rw [hbad, if_pos (by decide)]
    rw [hcut, hbad, if_pos (by decide), hll]
    refine ⟨.inl rfl, [], ?_, by simp, .inl rfl⟩
    unfold keepL
    rw [if_pos rfl, hall _ (by simp), List.append_nil]
    exact htk
  | cons t0 ts =>
    cases l with
    | nil =>
      have hbad : badI ⟨0, 0, Ld.take m ++ t0 :: ts⟩ [] = -1 := badI_none (fun j y hy => by simp at hy)
      have hcut : cutV ⟨0, 0, Ld.take m ++ t0 :: ts⟩ [] = 0 := by unfold cutV; rw [hbad, if_pos (by decide)]
      rw [hcut]
      simp at he
      subst he
      refine ⟨.inl rfl, t0 :: ts, ?_, hT, .inr ⟨rfl, rfl⟩⟩
      unfold keepL
      rw [if_pos rfl]
      simp [fromA]
    | cons y r =>
      have hy : (y :: r)[0]? = some y := rfl
      obtain ⟨h1, h2, h3⟩ := hidx hy
      have hbad : badI ⟨0, 0, Ld.take m ++ t0 :: ts⟩ (y :: r) = ((0 : Nat) : Int) := badI_at hy (by
        rw [badV_zero]
        have hi : y.index = (m : Int) + 1 := by rw [h1]; omega
        rw [hi, at_succ]
        have hg : (Ld.take m ++ t0 :: ts).getD m e0 = t0 := by
          rw [List.getD_eq_getElem?_getD, List.getElem?_append_right (by rw [hlen]; exact Nat.le_refl _), hlen, Nat.sub_self]
          rfl
        rw [hg]
        have ho := hT t0 (List.mem_cons_self ..)
        have hev := even_at hL (k := m) (by omega)
        rw [show m + 0 = m from rfl] at h3
        rw [← h3] at hev
        have hne : (t0.term == y.term) = false := by
          rw [beq_eq_false_iff_ne]
          intro h
          rw [h] at ho
          omega
        rw [hne]
        simp [hlen]
        omega) (fun j y hj => by omega)
      have hcut : cutV ⟨0, 0, Ld.take m ++ t0 :: ts⟩ (y :: r) = (m : Int) + 1 := by
        unfold cutV
        rw [hbad, if_neg (by omega)]
        show y.index = _
        rw [h1]
        omega
      rw [hcut, hbad, if_neg (by omega), hll]
      refine ⟨.inr ⟨by omega, by simp; omega⟩, [], ?_, by simp, .inl rfl⟩
      unfold keepL
      rw [if_neg (by omega), hall _ (by omega), List.append_nil]
      show (Ld.take m ++ t0 :: ts).take ((m : Int) + 1 - 0 - 1).toNat ++ (y :: r) = _
      rw [show ((m : Int) + 1 - 0 - 1).toNat = m by omega, List.take_left' hlen]
      exact htk
theorem meet_step {Ld fl : List Ent} {n turn : Nat} {a b : Int} (hL : LdOK Ld n) (h : MeetI Ld n fl a b turn) (hb : b ≠ (n : Int)) : ∃ (p : Nat) (yes : Bool) (at_ : Nat) (cut : Int) (add : List Ent), a = (p : Int) + 1 ∧ p ≤ n ∧
    fitV ⟨0, 0, fl⟩ (p : Int) (atV ⟨0, 0, Ld⟩ (p : Int)) ((Ld.drop p).take 8) = (yes, (at_ : Int), cut, add) ∧ at_ ≤ 1000 ∧
    (yes = false → MeetI Ld n fl (heardP a b false (at_ : Int) (n : Int)).1 (heardP a b false (at_ : Int) (n : Int)).2 (turn + 1)) ∧
    (yes = true → (cut = 0 ∨ (0 < cut ∧ cut ≤ lastV ⟨0, 0, fl⟩)) ∧ add.length ≤ 4096 ∧ SmallE add ∧ rightV ⟨0, 0, keepL ⟨0, 0, fl⟩ cut ++ add⟩ = true ∧
      MeetI Ld n (keepL ⟨0, 0, fl⟩ cut ++ add) (heardP a b true (at_ : Int) (n : Int)).1 (heardP a b true (at_ : Int) (n : Int)).2 (turn + 1)) := by
  obtain ⟨m, hm, ⟨T, hfl, hT⟩, hl2, hr, hsm, b0, bm, a1, a2, hph⟩ := h
  obtain ⟨p, hp⟩ : ∃ p : Nat, a = (p : Int) + 1 := ⟨(a - 1).toNat, by omega⟩
  obtain ⟨q, hq⟩ : ∃ q : Nat, b = (q : Int) := ⟨b.toNat, by omega⟩
  subst hp hq
  have hpm : m ≤ p := by omega
  have hpn : p ≤ n := by omega
  have hqm : q ≤ m := by omega
  have hll : lastV ⟨0, 0, fl⟩ = (fl.length : Int) := by unfold lastV; simp
  have hLl := hL.len
  have hmf : m ≤ fl.length := by rw [hfl, List.length_append, List.length_take]; omega
  have hsmall := hL.small
  have hrow := (right_len hr).2
  by_cases c1 : fl.length < p
  · refine ⟨p, false, fl.length + 1, 0, [], rfl, hpn, ?_, by omega, fun _ => ?_, fun h => by cases h⟩
    · unfold fitV
      rw [hll, if_pos (by omega)]
      rfl
    · rw [heard_no (by omega) hpn (by omega) (by omega)]
      exact ⟨m, hm, ⟨T, hfl, hT⟩, hl2, hr, hsm, b0, bm, by show (m : Int) + 1 ≤ _; omega, by show _ ≤ (n : Int) + 1; omega, by show ((turn + 1 : Nat) : Int) + (((fl.length + 1 : Nat) : Int) - 1 - (m : Int)) + _ ≤ _; omega⟩
  · by_cases c2 : 0 < p ∧ atV ⟨0, 0, fl⟩ (p : Int) ≠ atV ⟨0, 0, Ld⟩ (p : Int)
    · obtain ⟨c2a, c2b⟩ := c2
      obtain ⟨k, rfl⟩ : ∃ k, p = k + 1 := ⟨p - 1, by omega⟩
      have hkm : m ≤ k := by
        refine Nat.le_of_not_lt (fun hk => c2b ?_)
        rw [show ((k + 1 : Nat) : Int) = (k : Int) + 1 by omega, at_succ, at_succ, hfl, getD_take (by omega) hk]
      have hkf : k < fl.length := by omega
      obtain ⟨x, hx⟩ : ∃ x, fl[k]? = some x := ⟨_, List.getElem?_eq_getElem hkf⟩
      have hat : atV ⟨0, 0, fl⟩ ((k + 1 : Nat) : Int) = x.term := by
        rw [show ((k + 1 : Nat) : Int) = (k : Int) + 1 by omega, at_succ, List.getD_eq_getElem?_getD, hx]
        rfl
      have hodd : x.term % 2 = 1 := hT x (get_tail (Ld := Ld) (T := T) (m := m) (by omega) hkm (by rw [← hfl]; exact hx))
      obtain ⟨j, y, hjk, hy, hyt, hf⟩ := firstL_spec hx rfl
      have hyi := rowB_index hrow j y hy
      have hmj : m ≤ j := by
        refine Nat.le_of_not_lt (fun hj => ?_)
        have h1 := even_at hL (k := j) (by omega)
        have h2 : fl.getD j e0 = y := by rw [List.getD_eq_getElem?_getD, hy]; rfl
        rw [hfl, getD_take (by omega) hj] at h2
        rw [h2, hyt] at h1
        omega
      refine ⟨k + 1, false, j + 1, 0, [], rfl, hpn, ?_, by omega, fun _ => ?_, fun h => by cases h⟩
      · unfold fitV
        rw [hll, if_neg (by omega), if_neg (by show ¬ (((k + 1 : Nat) : Int) = 0 ∧ _); omega), if_pos ⟨by show (0 : Int) < _; omega, c2b⟩, hat]
        have hfv : firstV ⟨0, 0, fl⟩ x.term = ((j + 1 : Nat) : Int) := by
          unfold firstV
          rw [hr, if_pos rfl]
          show firstL x.term fl = _
          rw [hf, hyi]
          show (0 : Int) + 1 + (j : Int) = _
          omega
        rw [hfv]
      · rw [heard_no (by omega) hpn (by omega) (by omega)]
        exact ⟨m, hm, ⟨T, hfl, hT⟩, hl2, hr, hsm, b0, bm, by show (m : Int) + 1 ≤ _; omega, by show _ ≤ (n : Int) + 1; omega, by show ((turn + 1 : Nat) : Int) + (((j + 1 : Nat) : Int) - 1 - (m : Int)) + _ ≤ _; omega⟩
    · have hpe : p = m := by
        refine Nat.le_antisymm (Nat.le_of_not_lt (fun hlt => c2 ⟨by omega, ?_⟩)) hpm
        obtain ⟨k, rfl⟩ : ∃ k, p = k + 1 := ⟨p - 1, by omega⟩
        have hkf : k < fl.length := by omega
        obtain ⟨x, hx⟩ : ∃ x, fl[k]? = some x := ⟨_, List.getElem?_eq_getElem hkf⟩
        have hodd : x.term % 2 = 1 := hT x (get_tail (Ld := Ld) (T := T) (m := m) (by omega) (show m ≤ k by omega) (by rw [← hfl]; exact hx))
        have hev := even_at hL (k := k) (by omega)
        rw [show ((k + 1 : Nat) : Int) = (k : Int) + 1 by omega, at_succ, at_succ, List.getD_eq_getElem?_getD, hx]
        intro h
        rw [← h] at hev
        simp at hev
        omega
      subst hpe
      obtain ⟨e, he⟩ : ∃ e, ((Ld.drop p).take 8).length = e := ⟨_, rfl⟩
      have he2 : e = min 8 (n - p) := by rw [← he, List.length_take, List.length_drop, hLl]
      obtain ⟨hcut, T', hnew, hT', hTe⟩ := fits_meet hL hm hT (by rw [← hfl]; exact hr) he
      rw [← hfl] at hcut hnew
      have hnl : (Ld.take (p + e) ++ T').length ≤ 200 := by
        rw [List.length_append, List.length_take]
        rcases hTe with rfl | ⟨rfl, rfl⟩
        · simp; omega
        · have := hl2
          rw [hfl, List.length_append, List.length_take] at this
          omega
      have hnr : rightV ⟨0, 0, Ld.take (p + e) ++ T'⟩ = true := by
        rcases hTe with rfl | ⟨rfl, rfl⟩
        · rw [List.append_nil]
          exact right_take hL.right
        · rw [Nat.add_zero, ← hfl]
          exact hr
      have hns : SmallE (Ld.take (p + e) ++ T') := by
        rcases hTe with rfl | ⟨rfl, rfl⟩
        · rw [List.append_nil]
          exact fun x hx => hL.data x (List.mem_of_mem_take hx)
        · rw [Nat.add_zero, ← hfl]
          exact hsm
      obtain ⟨cut, hcv⟩ : ∃ cut, cutV ⟨0, 0, fl⟩ ((Ld.drop p).take 8) = cut := ⟨_, rfl⟩
      obtain ⟨add, hav⟩ : ∃ add, fromA (if badI ⟨0, 0, fl⟩ ((Ld.drop p).take 8) < 0 then lastV ⟨0, 0, fl⟩ + 1 else cut) ((Ld.drop p).take 8) = add := ⟨_, rfl⟩
      rw [hcv] at hcut hnew
      rw [hav] at hnew
      have hadl : add.length ≤ 8 ∧ SmallE add := by
        rw [← hav]
        unfold fromA
        refine ⟨Nat.le_trans (List.length_filter_le _ _) (List.length_take_le _ _), fun x hx => ?_⟩
        exact hL.data x (List.mem_of_mem_drop (List.mem_of_mem_take (List.mem_filter.1 hx).1))
      refine ⟨p, true, p + e, cut, add, rfl, hpn, ?_, by omega, (fun h => by cases h), fun _ => ⟨hcut, by omega, hadl.2, by rw [hnew]; exact hnr, ?_⟩⟩
      · unfold fitV
        rw [hll, if_neg (by omega)]
        have g2 : ¬ ((p : Int) = (⟨0, 0, fl⟩ : Vw).base ∧ (⟨0, 0, fl⟩ : Vw).term ≠ atV ⟨0, 0, Ld⟩ (p : Int)) := by
          rintro ⟨h1, h2⟩
          have h3 : (p : Int) = 0 := h1
          rw [h3, at_zero] at h2
          exact h2 rfl
        have g3 : ¬ ((⟨0, 0, fl⟩ : Vw).base < (p : Int) ∧ atV ⟨0, 0, fl⟩ (p : Int) ≠ atV ⟨0, 0, Ld⟩ (p : Int)) := by
          rintro ⟨h1, h2⟩
          have h3 : (0 : Int) < (p : Int) := h1
          exact c2 ⟨by omega, h2⟩
        rw [if_neg g2, if_neg g3, he, ← hll, hcv, hav]
        have : max ((p : Int) + (e : Int)) 0 = ((p + e : Nat) : Int) := by omega
        show (true, max ((p : Int) + (e : Int)) 0, cut, add) = _
        rw [this]
      · rw [hnew, show ((p + e : Nat) : Int) = (p : Int) + (e : Int) by omega, heard_yes (by omega) (by omega)]
        refine ⟨p + e, by omega, ⟨T', rfl, hT'⟩, hnl, hnr, hns, by show (0 : Int) ≤ (p : Int) + (e : Int); omega, by show (p : Int) + (e : Int) ≤ _; omega, by show ((p + e : Nat) : Int) + 1 ≤ (p : Int) + (e : Int) + 1; omega, by show (p : Int) + (e : Int) + 1 ≤ _; omega, ?_⟩
        show ((turn + 1 : Nat) : Int) + ((p : Int) + (e : Int) + 1 - 1 - ((p + e : Nat) : Int)) + ((n : Int) - ((p : Int) + (e : Int))) ≤ _
        omega
end Go.Proofs.Ytlcnpfiiijehmaa
