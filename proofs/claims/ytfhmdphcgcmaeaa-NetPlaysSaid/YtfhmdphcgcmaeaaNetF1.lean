/-
  NetForges: the plain part.
-/
import Derived.Test.YtfhmdphcgcmaeaaNetInv
import Derived.Test.YtfhmdphcgcmaeaaNetW1
set_option linter.unusedVariables false
set_option linter.unusedSimpArgs false
namespace Go.Proofs.Ytfhmdphcgcmaeaa
open Go.RowKit

/-- The bytes by which a letter is known. -/
def kb (l : Lt) : List UInt8 := [UInt8.ofNat l.1.toNat, UInt8.ofNat l.2.1.toNat] ++ l.2.2
/-- How many of these bytes there are. -/
def cnt (ls : List Lt) (bs : List UInt8) : Nat := ls.countP (fun l => kb l == bs)
theorem cnt_snoc (ls : List Lt) (l : Lt) (bs : List UInt8) : cnt (ls ++ [l]) bs = cnt ls bs + if kb l = bs then 1 else 0 := by
  unfold cnt
  rw [List.countP_append, List.countP_singleton]
  by_cases h : kb l = bs <;> simp [h]
theorem cnt_erase {ls : List Lt} {j : Nat} (hj : j < ls.length) (bs : List UInt8) : cnt (ls.eraseIdx j) bs + (if kb ls[j] = bs then 1 else 0) = cnt ls bs := by
  unfold cnt
  have h : ls = ls.take j ++ ls[j] :: ls.drop (j + 1) := by rw [List.getElem_cons_drop, List.take_append_drop]
  conv => rhs; rw [h]
  rw [List.eraseIdx_eq_take_drop_succ, List.countP_append, List.countP_append, List.countP_cons]
  by_cases h : kb ls[j] = bs <;> simp [h]
  omega
theorem cnt_pos {ls : List Lt} {j : Nat} (hj : j < ls.length) : 1 ≤ cnt ls (kb ls[j]) := by
  have := cnt_erase hj (kb ls[j])
  rw [if_pos rfl] at this
  omega
theorem cnt_le (ls : List Lt) (bs : List UInt8) : cnt ls bs ≤ ls.length := List.countP_le_length
/-- What the map is told of each bytes. -/
def cntM (ls : List Lt) (kl : Lit) : Lit := match kl with
  | .string bs => .int .i64 (cnt ls bs : Int)
  | _ => .int .i64 0
def StrKey (kl : Lit) : Prop := ∃ bs, kl = .string bs
theorem cntM_snoc_same (ls : List Lt) (l : Lt) : cntM (ls ++ [l]) (.string (kb l)) = .int .i64 ((cnt ls (kb l) : Int) + 1) := by
  simp only [cntM, cnt_snoc, if_pos]
  congr 1
theorem cntM_snoc_other (ls : List Lt) (l : Lt) (kl : Lit) (hne : kl ≠ .string (kb l)) (h : StrKey kl) : cntM (ls ++ [l]) kl = cntM ls kl := by
  obtain ⟨bs, rfl⟩ := h
  simp only [cntM, cnt_snoc]
  rw [if_neg (fun h => hne (by rw [h]))]
  rfl
theorem cntM_erase_same {ls : List Lt} {j : Nat} (hj : j < ls.length) : cntM (ls.eraseIdx j) (.string (kb ls[j])) = .int .i64 ((cnt ls (kb ls[j]) : Int) - 1) := by
  have := cnt_erase hj (kb ls[j])
  rw [if_pos rfl] at this
  simp only [cntM]
  congr 1
  omega
theorem cntM_erase_other {ls : List Lt} {j : Nat} (hj : j < ls.length) (kl : Lit) (hne : kl ≠ .string (kb ls[j])) (h : StrKey kl) : cntM (ls.eraseIdx j) kl = cntM ls kl := by
  obtain ⟨bs, rfl⟩ := h
  have := cnt_erase hj bs
  rw [if_neg (fun h => hne (by rw [h]))] at this
  simp only [cntM]
  congr 1
  omega
theorem strB_append (a b : List UInt8) : strB a ++ strB b = strB (a ++ b) := by
  apply ByteArray.ext
  simp [strB]
theorem strKeyed : Maps.Keyed Try.prog 9 := Maps.string_keyed Try.underlying9
theorem zeroInt (w : World) : (zeroValue 3).run Try.prog w = .ok (.int .i64 0) w := by kernel_rfl
theorem strB_data (bs : List UInt8) : (strB bs).data.toList = bs := by simp [strB]
theorem strB_size (bs : List UInt8) : (strB bs).size = bs.length := by
  show bs.toArray.size = bs.length
  simp
theorem keyOf_strB {bs : List UInt8} (h : bs.length ≤ maxLen) : keyOf Try.prog 9 (.string (strB bs)) = some (.string bs) := by
  have hs : (strB bs).size ≤ maxLen := by rw [strB_size]; exact h
  simp [keyOf, mapKey, Try.underlying9, hs, strB_data]
/-- The map of what was sent. -/
abbrev CntMap (w : World) (b n : Nat) (ls : List Lt) : Prop := MapAt Try.prog 9 3 StrKey (.int .i64 0) w b n (cntM ls)
theorem CntMap.get {w : World} {b n : Nat} {ls : List Lt} (h : CntMap w b n ls) {bs : List UInt8} (hb : bs.length ≤ maxLen) : (Instr.lookup 42 (.map (some b)) (.string (strB bs)) false).run Try.prog w = .ok (.int .i64 (cnt ls bs : Int)) w := by
  obtain ⟨c, hr, hc⟩ := h.look_int (t := 42) strKeyed Try.underlying42 Try.underlying3 zeroInt (keyOf_strB hb) ⟨bs, rfl⟩
  rw [hr]
  simp only [cntM] at hc
  injection hc with _ hc
  rw [hc]
theorem CntMap.made (w : World) : CntMap (w.alloc (.map #[] 0)) w.heap.size 0 [] := by
  obtain ⟨D, h1, h2⟩ := MapAt.made (P := Try.prog) (k := 9) (e := 3) StrKey (.int .i64 0) w
  refine ⟨D, h1, fun kl hk => ?_⟩
  rw [h2 kl hk]
  obtain ⟨i, rfl⟩ := hk
  rfl
end Go.Proofs.Ytfhmdphcgcmaeaa
