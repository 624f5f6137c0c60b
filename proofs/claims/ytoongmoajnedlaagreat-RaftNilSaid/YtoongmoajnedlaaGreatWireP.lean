/-
  Layer 13, plain: numbers as bytes, lists of servers as bytes.
-/
import Derived.Test.YtoongmoajnedlaaGreatLib
set_option linter.unusedVariables false
set_option linter.unusedSimpArgs false
namespace Go.Proofs.YtoongmoajnedlaaGreat
open Go.RowKit

/-- The bytes of a number, the least first. -/
def digs (x : Nat) : List UInt8 := if h : x = 0 then [] else UInt8.ofNat x :: digs (x / 256)
termination_by x
decreasing_by omega
theorem digs_zero : digs 0 = [] := by unfold digs; rw [dif_pos rfl]
theorem digs_pos {x : Nat} (h : 0 < x) : digs x = UInt8.ofNat x :: digs (x / 256) := by rw [digs]; rw [dif_neg (by omega)]
/-- A number as bytes. -/
def encN (x : Nat) : List UInt8 := UInt8.ofNat (digs x).length :: digs x
def valD : List UInt8 → Nat
  | [] => 0
  | b :: r => b.toNat + 256 * valD r
theorem digs_len : ∀ (k x : Nat), x < 256 ^ k → (digs x).length ≤ k
  | 0, x, h => by
    obtain rfl : x = 0 := by simpa using h
    rw [digs_zero]
    exact Nat.le_refl _
  | k + 1, x, h => by
    rcases Nat.eq_zero_or_pos x with rfl | h0
    · rw [digs_zero]
      exact Nat.zero_le _
    · rw [digs_pos h0, List.length_cons]
      have := digs_len k (x / 256) (by rw [Nat.pow_succ] at h; omega)
      omega
theorem u8_of (x : Nat) : (UInt8.ofNat x).toNat = x % 256 := by simp [UInt8.toNat_ofNat]
theorem valD_digs (x : Nat) : valD (digs x) = x := by
  induction x using Nat.strongRecOn with
  | ind x ih =>
    rcases Nat.eq_zero_or_pos x with rfl | h0
    · rw [digs_zero]
      rfl
    · rw [digs_pos h0]
      unfold valD
      rw [ih (x / 256) (by omega), u8_of]
      omega
theorem digs_last : ∀ (x : Nat), 0 < x → (digs x).getD ((digs x).length - 1) 0 ≠ 0 := by
  intro x
  induction x using Nat.strongRecOn with
  | ind x ih =>
    intro h0
    rw [digs_pos h0]
    rcases Nat.eq_zero_or_pos (x / 256) with h1 | h1
    · rw [h1, digs_zero]
      simp only [List.length_cons, List.length_nil]
      intro h
      have h2 : (UInt8.ofNat x).toNat = 0 := by
        have h3 : UInt8.ofNat x = 0 := by simpa using h
        rw [h3]
        rfl
      rw [u8_of] at h2
      omega
    · have h2 := ih (x / 256) (by omega) h1
      have h3 : 0 < (digs (x / 256)).length := by rw [digs_pos h1]; simp
      simp only [List.length_cons]
      obtain ⟨m, hm⟩ : ∃ m, (digs (x / 256)).length = m + 1 := ⟨(digs (x / 256)).length - 1, by omega⟩
      rw [hm] at h2 ⊢
      simpa using h2
theorem valD_zero : ∀ {l : List UInt8}, valD l = 0 → ∀ b ∈ l, b = 0
  | [], _ => by simp
  | b :: r, h => by
    unfold valD at h
    intro c hc
    rcases List.mem_cons.1 hc with rfl | hc
    · have : c.toNat = 0 := by omega
      exact UInt8.toNat_inj.1 (by simpa using this)
    · exact valD_zero (by omega) c hc
theorem digs_valD : ∀ {l : List UInt8}, (l = [] ∨ l.getD (l.length - 1) 0 ≠ 0) → digs (valD l) = l
  | [], _ => by unfold valD; exact digs_zero
  | b :: r, h => by
    have hb := b.toNat_lt
    have h0 : 0 < valD (b :: r) := by
      rcases Nat.eq_zero_or_pos (valD (b :: r)) with h1 | h1
      · have h2 := valD_zero h1
        rcases h with h | h
        · cases h
        · exfalso
          apply h
          have h3 : (b :: r).length - 1 < (b :: r).length := by simp
          rw [List.getD_eq_getElem?_getD, List.getElem?_eq_getElem h3]
          exact h2 _ (List.getElem_mem h3)
      · exact h1
    rw [digs_pos h0]
    have e0 : valD (b :: r) = b.toNat + 256 * valD r := rfl
    have e1 : UInt8.ofNat (valD (b :: r)) = b := by
      apply UInt8.toNat_inj.1
      rw [u8_of, e0]
      omega
    have e2 : valD (b :: r) / 256 = valD r := by
      rw [e0]
      omega
    rw [e1, e2]
    congr 1
    refine digs_valD ?_
    cases r with
    | nil => exact .inl rfl
    | cons c s =>
      refine .inr ?_
      rcases h with h | h
      · cases h
      · simpa using h
theorem valD_lt : ∀ (l : List UInt8), valD l < 256 ^ l.length
  | [] => by simp [valD]
  | b :: r => by
    have h1 := valD_lt r
    have h2 := b.toNat_lt
    unfold valD
    rw [List.length_cons, Nat.pow_succ]
    omega
/-- A number at the head of some bytes. -/
def getN (b : List UInt8) : Option (Nat × List UInt8) :=
  match b with
  | [] => none
  | h :: t => if 6 < h.toNat then none else if t.length < h.toNat then none else if 0 < h.toNat ∧ t.getD (h.toNat - 1) 0 = 0 then none else some (valD (t.take h.toNat), t.drop h.toNat)
theorem getN_enc {x : Nat} (hx : x < 281474976710656) (r : List UInt8) : getN (encN x ++ r) = some (x, r) := by
  have hl := digs_len 6 x (by simpa using hx)
  have hn : (UInt8.ofNat (digs x).length).toNat = (digs x).length := by rw [u8_of]; omega
  unfold encN getN
  rw [List.cons_append]
  dsimp only
  rw [hn, if_neg (by omega), if_neg (by rw [List.length_append]; omega), if_neg, List.take_left' rfl, List.drop_left' rfl, valD_digs]
  rintro ⟨h1, h2⟩
  rcases Nat.eq_zero_or_pos x with rfl | h0
  · rw [digs_zero] at h1
    simp at h1
  · refine digs_last x h0 ?_
    rw [List.getD_eq_getElem?_getD] at h2 ⊢
    rwa [List.getElem?_append_left (by omega)] at h2
theorem getN_some {b r : List UInt8} {x : Nat} (h : getN b = some (x, r)) : b = encN x ++ r ∧ x < 281474976710656 := by
  unfold getN at h
  cases b with
  | nil => cases h
  | cons c t =>
    dsimp only at h
    split at h
    · cases h
    · rename_i h1
      split at h
      · cases h
      · rename_i h2
        split at h
        · cases h
        · rename_i h3
          simp only [Option.some.injEq, Prod.mk.injEq] at h
          obtain ⟨rfl, rfl⟩ := h
          have hlen : (t.take c.toNat).length = c.toNat := by rw [List.length_take]; omega
          have hd : digs (valD (t.take c.toNat)) = t.take c.toNat := by
            refine digs_valD ?_
            rcases Nat.eq_zero_or_pos c.toNat with h0 | h0
            · exact .inl (by rw [h0, List.take_zero])
            · refine .inr fun h4 => h3 ⟨h0, ?_⟩
              rw [hlen, List.getD_eq_getElem?_getD, List.getElem?_take_of_lt (by omega)] at h4
              rw [List.getD_eq_getElem?_getD]
              exact h4
          constructor
          · unfold encN
            rw [hd, hlen, List.cons_append, List.take_append_drop]
            congr 1
            apply UInt8.toNat_inj.1
            rw [u8_of]
            have := c.toNat_lt
            omega
          · have := valD_lt (t.take c.toNat)
            rw [hlen] at this
            have h5 : 256 ^ c.toNat ≤ 256 ^ 6 := Nat.pow_le_pow_right (by decide) (by omega)
            have h6 : (256 : Nat) ^ 6 = 281474976710656 := by decide
            omega
/-- What a reader has left; none: it has met a fault. -/
abbrev RS := Option (List UInt8)
def rdN : RS → Nat × RS
  | none => (0, none)
  | some b => match getN b with
    | none => (0, none)
    | some (x, r) => (x, some r)
def rdK : Nat → RS → List Nat × RS
  | 0, s => ([], s)
  | k + 1, s => ((rdK k s).1 ++ [(rdN (rdK k s).2).1], (rdN (rdK k s).2).2)
theorem rdK_len (s : RS) : ∀ k, (rdK k s).1.length = k
  | 0 => rfl
  | k + 1 => by
    have := rdK_len s k
    simp [rdK, this]
theorem rdN_lt (s : RS) : (rdN s).1 < 281474976710656 := by
  unfold rdN
  cases s with
  | none => decide
  | some b =>
    dsimp only
    cases h : getN b with
    | none => decide
    | some p =>
      obtain ⟨x, r⟩ := p
      exact (getN_some h).2
theorem rdK_lt (s : RS) : ∀ k, ∀ x ∈ (rdK k s).1, x < 281474976710656
  | 0 => by intro x hx; simp [rdK] at hx
  | k + 1 => by
    intro x hx
    simp only [rdK, List.mem_append, List.mem_singleton] at hx
    rcases hx with hx | rfl
    · exact rdK_lt s k x hx
    · exact rdN_lt _
def encL (l : List Nat) : List UInt8 := (l.map encN).flatten
theorem encL_snoc (l : List Nat) (x : Nat) : encL (l ++ [x]) = encL l ++ encN x := by simp [encL]
theorem rdK_some {s : RS} {r : List UInt8} : ∀ {k : Nat}, (rdK k s).2 = some r → s = some (encL (rdK k s).1 ++ r)
  | 0, h => by
    simp only [rdK] at h
    rw [h]
    rfl
  | k + 1, h => by
    simp only [rdK] at h ⊢
    obtain ⟨t, ht⟩ : ∃ t, (rdK k s).2 = t := ⟨_, rfl⟩
    rw [ht] at h ⊢
    cases t with
    | none => simp [rdN] at h
    | some b =>
      have ih := rdK_some (k := k) ht
      unfold rdN at h ⊢
      dsimp only at h ⊢
      cases hg : getN b with
      | none =>
        rw [hg] at h
        cases h
      | some p =>
        obtain ⟨x, r'⟩ := p
        rw [hg] at h
        dsimp only at h ⊢
        cases h
        obtain ⟨e, _⟩ := getN_some hg
        rw [encL_snoc, List.append_assoc, ← e]
        exact ih
theorem rdK_enc {l : List Nat} (hl : ∀ x ∈ l, x < 281474976710656) (r : List UInt8) : rdK l.length (some (encL l ++ r)) = (l, some r) := by
  have key : ∀ k, k ≤ l.length → rdK k (some (encL l ++ r)) = (l.take k, some (encL (l.drop k) ++ r)) := by
    intro k
    induction k with
    | zero => intro _; rfl
    | succ k ih =>
      intro hk
      have h1 := ih (by omega)
      simp only [rdK]
      rw [h1]
      have h2 : l.drop k = l[k] :: l.drop (k + 1) := by rw [List.drop_eq_getElem_cons (by omega)]
      have h3 : encL (l.drop k) ++ r = encN l[k] ++ (encL (l.drop (k + 1)) ++ r) := by
        rw [h2]
        unfold encL
        rw [List.map_cons, List.flatten_cons, List.append_assoc]
      dsimp only
      rw [h3]
      unfold rdN
      dsimp only
      rw [getN_enc (hl _ (List.getElem_mem _)), List.take_succ_eq_append_getElem (by omega)]
  have := key l.length (Nat.le_refl _)
  rw [List.take_length, List.drop_length] at this
  exact this
/-- May a list of servers be? -/
def rightS (l : List Nat) : Bool := decide (1 ≤ l.length) && decide (l.length ≤ 7) && (l.all fun x => decide (x < 16)) && decide (l.Pairwise (· < ·))
def encS (l : List Nat) : List UInt8 := encN l.length ++ encL l
def isServ (b : List UInt8) : Prop := ∃ l, rightS l = true ∧ encS l = b
theorem rightS_iff {l : List Nat} : rightS l = true ↔ 1 ≤ l.length ∧ l.length ≤ 7 ∧ (∀ x ∈ l, x < 16) ∧ l.Pairwise (· < ·) := by
  unfold rightS
  simp only [Bool.and_eq_true, decide_eq_true_eq, List.all_eq_true]
  constructor
  · rintro ⟨⟨⟨h1, h2⟩, h3⟩, h4⟩
    exact ⟨h1, h2, h3, h4⟩
  · rintro ⟨h1, h2, h3, h4⟩
    exact ⟨⟨⟨h1, h2⟩, h3⟩, h4⟩
/-- What the two readers take from some bytes: n numbers are said, at most m are taken. -/
def srvN (b : List UInt8) : Nat := (rdN (some b)).1
def srvL (m : Nat) (b : List UInt8) : List Nat := (rdK (min (srvN b) m) (rdN (some b)).2).1
def srvE (m : Nat) (b : List UInt8) : RS := (rdK (min (srvN b) m) (rdN (some b)).2).2
theorem srv_enc {l : List Nat} (h : rightS l = true) {m : Nat} (hm : 7 ≤ m) : srvN (encS l) = l.length ∧ srvL m (encS l) = l ∧ srvE m (encS l) = some [] := by
  obtain ⟨h1, h2, h3, h4⟩ := rightS_iff.1 h
  have hn : rdN (some (encS l)) = (l.length, some (encL l)) := by
    unfold rdN encS
    dsimp only
    rw [getN_enc (by omega)]
  have hk := rdK_enc (l := l) (fun x hx => by have := h3 x hx; omega) []
  rw [List.append_nil] at hk
  unfold srvL srvE srvN
  rw [hn]
  dsimp only
  rw [Nat.min_eq_left (by omega), hk]
  exact ⟨rfl, rfl, rfl⟩
theorem serv_prog (b : List UInt8) : (rightS (srvL 7 b) = true ∧ encS (srvL 7 b) = b) ↔ isServ b := by
  constructor
  · rintro ⟨h1, h2⟩
    exact ⟨_, h1, h2⟩
  · rintro ⟨l, h1, rfl⟩
    rw [(srv_enc h1 (Nat.le_refl 7)).2.1]
    exact ⟨h1, rfl⟩
theorem serv_ref (b : List UInt8) : (srvE 8 b = some [] ∧ srvN b = (srvL 8 b).length ∧ rightS (srvL 8 b) = true) ↔ isServ b := by
  constructor
  · rintro ⟨h1, h2, h3⟩
    refine ⟨srvL 8 b, h3, ?_⟩
    unfold srvE at h1
    have h4 := rdK_some h1
    rw [List.append_nil] at h4
    unfold srvN at h2
    unfold rdN at h2 h4
    dsimp only at h2 h4
    cases hg : getN b with
    | none =>
      rw [hg] at h4
      cases h4
    | some p =>
      obtain ⟨x, r⟩ := p
      rw [hg] at h2 h4
      dsimp only at h2 h4
      obtain ⟨e, _⟩ := getN_some hg
      have h5 : r = encL (srvL 8 b) := by
        have := Option.some.inj h4
        unfold srvL
        have e2 : rdN (some b) = (x, some r) := by unfold rdN; dsimp only; rw [hg]
        rw [e2]
        exact this
      unfold encS
      rw [← h2, ← h5]
      exact e.symm
  · rintro ⟨l, h1, rfl⟩
    obtain ⟨h2, h3, h4⟩ := srv_enc h1 (show 7 ≤ 8 by decide)
    rw [h2, h3, h4]
    exact ⟨rfl, rfl, h1⟩
/-- Is it a list of servers, as bytes? -/
noncomputable def servB (b : List UInt8) : Bool := @decide (isServ b) (Classical.propDecidable _)
theorem servB_true {b : List UInt8} : servB b = true ↔ isServ b := @decide_eq_true_iff (isServ b) (Classical.propDecidable _)
/-- An entry, its data as bytes. -/
structure Ent where
  term : Int
  index : Int
  kind : Int
  data : List UInt8
/-- May an entry be? -/
noncomputable def rightE (x : Ent) : Bool :=
  (decide (1 ≤ x.term) && decide (x.term < 1099511627776) && (decide (1 ≤ x.index) && decide (x.index < 1099511627776))) &&
    (if x.kind = 1 then decide (x.data.length = 0) else if x.kind = 2 then decide (x.data.length ≤ 4096) else if x.kind = 3 then servB x.data else false)
end Go.Proofs.YtoongmoajnedlaaGreat
