/-
  NetWalls: the plain part.
-/
import Derived.Test.YtfhmdphcgcmaeaaNetInv
set_option linter.unusedVariables false
set_option linter.unusedSimpArgs false
namespace Go.Proofs.Ytfhmdphcgcmaeaa
open Go.RowKit

theorem walls_get : ∀ (ids : List Int) (wl : List Bool), ids.all serverB = true → wl.length = 16 → ∀ j : Nat, j < 16 → (ids.foldl (fun wl i => wl.set i.toNat true) wl).getD j false = (ids.any (fun i => i == (j : Int)) || wl.getD j false)
  | [], wl, _, _, j, _ => by simp
  | i :: ids, wl, h, hl, j, hj => by
    simp only [List.all_cons, Bool.and_eq_true] at h
    obtain ⟨n, rfl, hn⟩ := serverB_nat h.1
    rw [List.foldl_cons, walls_get ids _ h.2 (by simpa using hl) j hj, List.any_cons]
    simp only [Int.toNat_natCast, List.getD_eq_getElem?_getD, List.getElem?_set]
    by_cases e : n = j
    · subst e
      simp [hl, hn]
    · have e' : ((n : Int) == (j : Int)) = false := by simp; omega
      rw [e', if_neg e]
      simp
theorem wallL_get {ids : List Int} (h : ids.all serverB = true) {i : Int} (hi : serverB i = true) : (wallL ids).getD i.toNat false = ids.any (fun x => x == i) := by
  obtain ⟨n, rfl, hn⟩ := serverB_nat hi
  rw [Int.toNat_natCast]
  unfold wallL
  rw [walls_get ids open16 h rfl n hn, open16_getD, Bool.or_false]
/-- What the map is told of each server. -/
def inM (ids : List Int) (kl : Lit) : Lit := match kl with
  | .int .i64 i => .bool (ids.any (fun x => x == i))
  | _ => .bool false
def IntKey (kl : Lit) : Prop := ∃ i, kl = .int .i64 i
theorem inM_same (ids : List Int) (i : Int) : inM (ids ++ [i]) (.int .i64 i) = .bool true := by simp [inM]
theorem inM_other (ids : List Int) (i : Int) (kl : Lit) (hne : kl ≠ .int .i64 i) (h : IntKey kl) : inM (ids ++ [i]) kl = inM ids kl := by
  obtain ⟨k, rfl⟩ := h
  have : (i == k) = false := by simp; exact fun h => hne (by rw [h])
  simp [inM, this]
theorem openL_wall {ids : List Int} (h : ids.all serverB = true) {l : Lt} (hr : rightB l = true) : openL (wallL ids) l = (ids.any (fun x => x == l.1) == ids.any (fun x => x == l.2.1)) := by
  have hr' : (serverB l.1 && (serverB l.2.1 && ((l.1 != l.2.1) && decide (l.2.2.length ≤ 1048576)))) = true := hr
  unfold openL openB
  rw [hr']
  simp only [Bool.and_eq_true] at hr'
  rw [wallL_get h hr'.1, wallL_get h hr'.2.1]
  rfl
theorem rightB_servers {l : Lt} (hr : rightB l = true) : serverB l.1 = true ∧ serverB l.2.1 = true := by
  have hr' : (serverB l.1 && (serverB l.2.1 && ((l.1 != l.2.1) && decide (l.2.2.length ≤ 1048576)))) = true := hr
  simp only [Bool.and_eq_true] at hr'
  exact ⟨hr'.1, hr'.2.1⟩
theorem serverB_wf {i : Int} (h : serverB i = true) : (Lit.int .i64 i).wf = true := by
  obtain ⟨n, rfl, hn⟩ := serverB_nat h
  exact WalkArith.wf_i64 (by omega)
theorem nextN_ge {wl : List Bool} {ls : List Lt} {k : Nat} (h : 0 ≤ nextN wl ls k) : ∃ j : Nat, nextN wl ls k = (j : Int) ∧ k ≤ j ∧ ∃ hj : j < ls.length, openL wl ls[j] = true ∧ ∀ i, k ≤ i → (hi : i < j) → openL wl (ls[i]'(by omega)) = false := by
  unfold nextN at h ⊢
  cases hf : (ls.drop k).findIdx? (openL wl) with
  | none => rw [hf] at h; exact absurd h (by simp)
  | some i =>
    rw [List.findIdx?_eq_some_iff_getElem] at hf
    obtain ⟨hi, h1, h2⟩ := hf
    rw [List.length_drop] at hi
    refine ⟨k + i, rfl, by omega, by omega, ?_, fun j hk hj => ?_⟩
    · rw [List.getElem_drop] at h1; exact h1
    · have := h2 (j - k) (by omega)
      rw [List.getElem_drop] at this
      have e : k + (j - k) = j := by omega
      simpa [e] using this
theorem nextN_none {wl : List Bool} {ls : List Lt} {k : Nat} (h : nextN wl ls k < 0) : ∀ i, k ≤ i → (hi : i < ls.length) → openL wl ls[i] = false := by
  unfold nextN at h
  cases hf : (ls.drop k).findIdx? (openL wl) with
  | some i => rw [hf] at h; exact absurd h (by simp; omega)
  | none =>
    rw [List.findIdx?_eq_none_iff] at hf
    intro i hk hi
    have := hf ls[i] (by rw [List.mem_drop_iff_getElem]; exact ⟨i - k, by omega, by congr 1; omega⟩)
    simpa using this
/-- All of the first k are kept back. -/
def Shut (wl : List Bool) (ls : List Lt) (k : Nat) : Prop := ∀ i, i < k → (hi : i < ls.length) → openL wl ls[i] = false
theorem Shut.erase {wl : List Bool} {ls : List Lt} {k j : Nat} (h : Shut wl ls k) (hkj : k ≤ j) (hb : ∀ i, k ≤ i → (hi : i < j) → (hl : i < ls.length) → openL wl ls[i] = false) : Shut wl (ls.eraseIdx j) j := by
  intro i hi hl
  have hl' : i < ls.length := by
    rw [List.length_eraseIdx] at hl
    split at hl <;> omega
  rw [List.getElem_eraseIdx_of_lt (h' := hi)]
  by_cases hik : i < k
  · exact h i hik hl'
  · exact hb i (by omega) hi hl'
/-- One that passes is taken. -/
theorem take_open {wl : List Bool} {ls : List Lt} {j : Nat} (hj : j < ls.length) (ho : openL wl ls[j] = true) : takeE wl ls (j : Int) = 0 ∧ takeL wl ls (j : Int) = ls[j] ∧ takeN wl ls (j : Int) = ls.eraseIdx j := by
  have ha : atE (j : Int) ls.length = 0 := if_neg (by omega)
  have hl := lookL_some hj
  have he : takeE wl ls (j : Int) = 0 := by unfold takeE; rw [if_pos ha, hl, if_pos ho]
  exact ⟨he, by unfold takeL; rw [if_pos he, hl], by unfold takeN; rw [if_pos he, Int.toNat_natCast]⟩
theorem take_shut {wl : List Bool} {ls : List Lt} {j : Nat} (hj : j < ls.length) (ho : openL wl ls[j] = false) : takeE wl ls (j : Int) = 31 ∧ takeL wl ls (j : Int) = (0, 0, []) ∧ takeN wl ls (j : Int) = ls := by
  have ha : atE (j : Int) ls.length = 0 := if_neg (by omega)
  have hl := lookL_some hj
  have he : takeE wl ls (j : Int) = 31 := by unfold takeE; rw [if_pos ha, hl, ho]; rfl
  exact ⟨he, by unfold takeL; rw [if_neg (by rw [he]; decide)], by unfold takeN; rw [if_neg (by rw [he]; decide)]⟩
end Go.Proofs.Ytfhmdphcgcmaeaa
