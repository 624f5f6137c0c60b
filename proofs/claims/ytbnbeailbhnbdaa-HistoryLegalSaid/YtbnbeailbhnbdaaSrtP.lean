/-
  Plain: what a stable sort of numbers does, told in lists. No program in sight.
-/
import Derived.Test.YtbnbeailbhnbdaaRowK
import Derived.Test.YtbnbeailbhnbdaaOut
set_option linter.unusedVariables false
set_option linter.unusedSimpArgs false
namespace Go.Proofs.Ytbnbeailbhnbdaa
open Go.RowKit

/-- A strict order in which any two numbers can be told apart. -/
structure LO (lt : Int → Int → Bool) : Prop where
  irr : ∀ x, lt x x = false
  tr : ∀ x y z, lt x y = true → lt y z = true → lt x z = true
  tot : ∀ x y, x ≠ y → lt x y = true ∨ lt y x = true
theorem LO.asym {lt : Int → Int → Bool} (h : LO lt) {x y : Int} (hxy : lt x y = true) : lt y x = false := by
  cases hyx : lt y x with
  | false => rfl
  | true => exact absurd (h.tr x y x hxy hyx) (by rw [h.irr]; decide)
theorem LO.of_not {lt : Int → Int → Bool} (h : LO lt) {x y : Int} (hne : x ≠ y) (hn : lt x y = false) : lt y x = true := by
  rcases h.tot x y hne with h1 | h1
  · rw [hn] at h1; cases h1
  · exact h1
abbrev Srt (lt : Int → Int → Bool) (l : List Int) : Prop := l.Pairwise fun x y => lt x y = true
section
variable {lt : Int → Int → Bool}
theorem srt_ext (ho : LO lt) : ∀ {a b : List Int}, Srt lt a → Srt lt b → (∀ x, x ∈ a ↔ x ∈ b) → a = b
  | [], [], _, _, _ => rfl
  | [], y :: l, _, _, h => by have := (h y).2 List.mem_cons_self; simp at this
  | x :: l, [], _, _, h => by have := (h x).1 List.mem_cons_self; simp at this
  | x :: k, y :: l, ha, hb, h => by
    have ha' := List.pairwise_cons.1 ha
    have hb' := List.pairwise_cons.1 hb
    have hxy : x = y := by
      rcases List.mem_cons.1 ((h x).1 List.mem_cons_self) with h1 | h1
      · exact h1
      · rcases List.mem_cons.1 ((h y).2 List.mem_cons_self) with h2 | h2
        · exact h2.symm
        · have k1 := hb'.1 x h1
          rw [ho.asym (ha'.1 y h2)] at k1
          cases k1
    subst hxy
    rw [srt_ext ho ha'.2 hb'.2 fun z => ?_]
    constructor
    · intro hz
      rcases List.mem_cons.1 ((h z).1 (List.mem_cons_of_mem _ hz)) with e | e
      · subst e; have := ha'.1 z hz; rw [ho.irr] at this; cases this
      · exact e
    · intro hz
      rcases List.mem_cons.1 ((h z).2 (List.mem_cons_of_mem _ hz)) with e | e
      · subst e; have := hb'.1 z hz; rw [ho.irr] at this; cases this
      · exact e
theorem srt_perm_eq (ho : LO lt) {a b : List Int} (ha : Srt lt a) (hb : Srt lt b) (h : a.Perm b) : a = b := srt_ext ho ha hb fun x => h.mem_iff
theorem srt_ne (ho : LO lt) {a : List Int} (ha : Srt lt a) : a.Nodup := ha.imp fun {x y} h e => by subst e; rw [ho.irr] at h; cases h
theorem srt_get {a : List Int} (ha : Srt lt a) {i j : Nat} (hij : i < j) (hj : j < a.length) : lt (a.getD i 0) (a.getD j 0) = true := by
  have := List.pairwise_iff_getElem.1 ha i j (by omega) hj hij
  rwa [List.getD_eq_getElem?_getD, List.getD_eq_getElem?_getD, List.getElem?_eq_getElem (by omega), List.getElem?_eq_getElem hj]
theorem getD_of {l : List Int} {k : Nat} (hk : k < l.length) : l.getD k 0 = l[k] := by simp [List.getD_eq_getElem?_getD, hk]
/-- What stands ahead of place i in A is below all from place j of B on, if the last and the first are. -/
theorem cross (ho : LO lt) {A B : List Int} (hA : Srt lt A) (hB : Srt lt B) {i j : Nat} (hi : i ≤ A.length) (h : i = 0 ∨ j = B.length ∨ lt (A.getD (i - 1) 0) (B.getD j 0) = true) :
    ∀ x ∈ A.take i, ∀ y ∈ B.drop j, lt x y = true := by
  intro x hx y hy
  obtain ⟨u, hu, rfl⟩ := List.getElem_of_mem hx
  obtain ⟨v, hv, rfl⟩ := List.getElem_of_mem hy
  rw [List.length_take] at hu
  rw [List.length_drop] at hv
  rw [List.getElem_take, List.getElem_drop]
  have hl := h.resolve_left (by omega) |>.resolve_left (by omega)
  rw [getD_of (show i - 1 < A.length by omega), getD_of (show j < B.length by omega)] at hl
  have h1 : u = i - 1 ∨ lt A[u] A[i - 1] = true := by
    rcases Nat.lt_or_ge u (i - 1) with h1 | h1
    · exact .inr (List.pairwise_iff_getElem.1 hA u (i - 1) (by omega) (by omega) h1)
    · exact .inl (by omega)
  have h2 : v = 0 ∨ lt B[j] B[j + v] = true := by
    rcases Nat.eq_zero_or_pos v with h2 | h2
    · exact .inl h2
    · exact .inr (List.pairwise_iff_getElem.1 hB j (j + v) (by omega) (by omega) (by omega))
  have h3 : lt A[u] B[j] = true := by
    rcases h1 with h1 | h1
    · subst h1; exact hl
    · exact ho.tr _ _ _ h1 hl
  rcases h2 with h2 | h2
  · subst h2; exact h3
  · exact ho.tr _ _ _ h3 h2
/-- Two halves, merged by themselves, lie one behind the other. -/
theorem merged {L R M1 M2 : List Int} {i j : Nat} (hL : Srt lt L) (hR : Srt lt R) (p1 : M1.Perm (L.take i ++ R.take j)) (p2 : M2.Perm (L.drop i ++ R.drop j)) (s1 : Srt lt M1) (s2 : Srt lt M2)
    (hLR : ∀ x ∈ L.take i, ∀ y ∈ R.drop j, lt x y = true) (hRL : ∀ x ∈ R.take j, ∀ y ∈ L.drop i, lt x y = true) : Srt lt (M1 ++ M2) ∧ (M1 ++ M2).Perm (L ++ R) := by
  refine ⟨?_, ?_⟩
  · refine List.pairwise_append.2 ⟨s1, s2, fun x hx y hy => ?_⟩
    have hL' : Srt lt (L.take i ++ L.drop i) := by rw [List.take_append_drop]; exact hL
    have hR' : Srt lt (R.take j ++ R.drop j) := by rw [List.take_append_drop]; exact hR
    rcases List.mem_append.1 (p1.mem_iff.1 hx) with h1 | h1 <;> rcases List.mem_append.1 (p2.mem_iff.1 hy) with h2 | h2
    · exact (List.pairwise_append.1 hL').2.2 x h1 y h2
    · exact hLR x h1 y h2
    · exact hRL x h1 y h2
    · exact (List.pairwise_append.1 hR').2.2 x h1 y h2
  · refine (p1.append p2).trans ?_
    have e : L.take i ++ R.take j ++ (L.drop i ++ R.drop j) = L.take i ++ (R.take j ++ L.drop i) ++ R.drop j := by simp [List.append_assoc]
    rw [e]
    refine ((List.Perm.append_left _ List.perm_append_comm).append_right _).trans ?_
    have e2 : L.take i ++ (L.drop i ++ R.take j) ++ R.drop j = (L.take i ++ L.drop i) ++ (R.take j ++ R.drop j) := by simp only [List.append_assoc]
    rw [e2, List.take_append_drop, List.take_append_drop]
/-! ### lists whose parts are known -/
theorem getD_pre {P : List Int} {k a : Nat} (X : List Int) (ha : P.length = a) : (P ++ X).getD (a + k) 0 = X.getD k 0 := by
  subst ha
  simp [List.getD_eq_getElem?_getD, List.getElem?_append_right]
theorem getD_fst {X : List Int} {k : Nat} (Y : List Int) (hk : k < X.length) : (X ++ Y).getD k 0 = X.getD k 0 := by
  simp [List.getD_eq_getElem?_getD, List.getElem?_append_left hk]
/-- Two places exchanged. -/
def swapL (ds : List Int) (i j : Nat) : List Int := (ds.set i (ds.getD j 0)).set j (ds.getD i 0)
theorem swapL_length (ds : List Int) (i j : Nat) : (swapL ds i j).length = ds.length := by simp [swapL]
theorem set_at (P X Y : List Int) (x y : Int) : (P ++ x :: Y).set P.length y = P ++ y :: Y := by
  rw [List.set_append_right _ _ (Nat.le_refl _), Nat.sub_self, List.set_cons_zero]
theorem getD_mid (P Y : List Int) (x : Int) : (P ++ x :: Y).getD P.length 0 = x := by simp [List.getD_eq_getElem?_getD]
theorem swap_far (P Q S : List Int) (x y : Int) : swapL (P ++ x :: Q ++ y :: S) P.length (P ++ x :: Q).length = P ++ y :: Q ++ x :: S := by
  unfold swapL
  rw [getD_mid, show P ++ x :: Q ++ y :: S = P ++ x :: (Q ++ y :: S) by simp, getD_mid, set_at P [] (Q ++ y :: S) x y]
  have : (P ++ x :: Q).length = (P ++ y :: Q).length := by simp
  rw [this, show P ++ y :: (Q ++ y :: S) = (P ++ y :: Q) ++ y :: S by simp, set_at (P ++ y :: Q) [] S y x]
theorem swap_next (P S : List Int) (x y : Int) : swapL (P ++ x :: y :: S) P.length (P.length + 1) = P ++ y :: x :: S := by
  have := swap_far P [] S x y
  simpa using this
theorem swapL_comm {ds : List Int} {i j : Nat} (hij : i ≠ j) : swapL ds i j = swapL ds j i := by
  unfold swapL
  rw [List.set_comm _ _ (Ne.symm hij)]
/-! ### a list of numbers from a to b -/
def ival (a b : Nat) : List Int := (List.range (b - a)).map fun (k : Nat) => ((a + k : Nat) : Int)
theorem ival_length (a b : Nat) : (ival a b).length = b - a := by simp [ival]
theorem mem_ival {a b : Nat} {x : Int} : x ∈ ival a b ↔ (a : Int) ≤ x ∧ x < (b : Int) := by
  unfold ival
  rw [List.mem_map]
  constructor
  · rintro ⟨k, hk, rfl⟩
    simp at hk
    omega
  · rintro ⟨h1, h2⟩
    exact ⟨(x - a).toNat, by simp; omega, by omega⟩
theorem ival_split {a m b : Nat} (h1 : a ≤ m) (h2 : m ≤ b) : ival a b = ival a m ++ ival m b := by
  refine List.ext_getElem (by simp [ival_length]; omega) fun i hi hj => ?_
  rw [List.getElem_append]
  split
  · simp [ival]
  · rename_i h
    rw [ival_length] at h
    simp [ival]
    omega
theorem ival_lt (a b : Nat) : (ival a b).Pairwise (· < ·) := by
  unfold ival
  rw [List.pairwise_map]
  exact List.pairwise_lt_range.imp fun h => by omega
theorem ival_nil {a b : Nat} (h : b ≤ a) : ival a b = [] := by simp [ival, Nat.sub_eq_zero_of_le h]
end
/-! ### the sorted list -/
section
variable (lt : Int → Int → Bool)
def leB (x y : Int) : Bool := lt x y || x == y
/-- The numbers from a to b, in order. -/
def srtI (a b : Nat) : List Int := (ival a b).mergeSort (leB lt)
variable {lt}
theorem srtI_perm (a b : Nat) : (srtI lt a b).Perm (ival a b) := List.mergeSort_perm _ _
theorem srtI_srt (ho : LO lt) (a b : Nat) : Srt lt (srtI lt a b) := by
  have h1 : (srtI lt a b).Pairwise (fun x y => leB lt x y = true) := by
    refine List.pairwise_mergeSort (le := leB lt) (fun x y z h1 h2 => ?_) (fun x y => ?_) _
    · unfold leB at *
      simp only [Bool.or_eq_true, beq_iff_eq] at *
      rcases h1 with h1 | rfl
      · rcases h2 with h2 | rfl
        · exact .inl (ho.tr _ _ _ h1 h2)
        · exact .inl h1
      · exact h2
    · unfold leB
      by_cases e : x = y
      · simp [e]
      · rcases ho.tot x y e with h | h <;> simp [h]
  have h2 : (srtI lt a b).Nodup := (srtI_perm a b).nodup_iff.2 ((ival_lt a b).imp fun h => by omega)
  exact h1.imp₂ (fun x y h1 h2 => by
    unfold leB at h1
    simp only [Bool.or_eq_true, beq_iff_eq] at h1
    exact h1.resolve_right h2) h2
theorem srtI_of (ho : LO lt) {a b : Nat} {M : List Int} (hs : Srt lt M) (hp : M.Perm (ival a b)) : M = srtI lt a b := srt_perm_eq ho hs (srtI_srt ho a b) (hp.trans (srtI_perm a b).symm)
theorem srtI_length (a b : Nat) : (srtI lt a b).length = b - a := by rw [(srtI_perm a b).length_eq, ival_length]
theorem mem_srtI {a b : Nat} {x : Int} : x ∈ srtI lt a b ↔ (a : Int) ≤ x ∧ x < (b : Int) := by rw [(srtI_perm a b).mem_iff, mem_ival]
/-- Blocks in order, of size s, from a on to n. -/
def blocks (lt : Int → Int → Bool) (s n : Nat) : Nat → Nat → List Int
  | 0, a => srtI lt a n
  | fuel + 1, a => if a + s ≤ n then srtI lt a (a + s) ++ blocks lt s n fuel (a + s) else srtI lt a n
end
end Go.Proofs.Ytbnbeailbhnbdaa
