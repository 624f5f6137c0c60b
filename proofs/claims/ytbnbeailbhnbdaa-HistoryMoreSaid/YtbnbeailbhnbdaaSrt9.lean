/-
  slices.SortStableFunc; cmp.Compare, cmp.Or; calls as values.
-/
import Derived.Test.YtbnbeailbhnbdaaSrt8
set_option linter.unusedVariables false
set_option linter.unusedSimpArgs false
namespace Go.Proofs.Ytbnbeailbhnbdaa
open Go.RowKit

theorem sort_any {G : World → Prop} {g n p1 p2 : Nat} {lt : Int → Int → Bool} {w : World} (hC : CmpOK G g (n : Int) p1 p2 lt) (ho : LO lt) (hG : G w) (h : ArrAt g (ival 0 n) w) (hm : n ≤ 140737488355328) :
    Calls Try.prog 52 #[.slice (some ⟨g, 0, none⟩) n n, cmpV p1 p2] w (RetArr2 g (srtI lt 0 n) w) := by
  have HG := Lib.hid hG
  have HC := Lib.hid hC
  have HO := Lib.hid ho
  have HA := Lib.hid h
  clear hG hC ho h
  unfold cmpV
  go_enter Try.func52, Try.ntmps52
  go_wp2_with (first
    | (go_at_call 57; refine (stable_any HC.out HO.out HG.out HA.out hm).mono ?_; rintro e w1 ⟨rfl, ha1, ho1⟩)
    | fail)
  go_end0
  exact ⟨rfl, ha1, ho1⟩
def cmpI (x y : Int) : Int := if x < y then -1 else if y < x then 1 else 0
theorem nan_any (x : Int) (w : World) : Calls Try.prog 54 #[.int .i64 x] w fun e w' => e = .returned (.bool false) ∧ w = w' := by
  go_enter Try.func54, Try.ntmps54
  go_wp2
  go_ret
  exact ⟨by simp, rfl⟩
theorem compare_any (x y : Int) (w : World) : Calls Try.prog 40 #[.int .i64 x, .int .i64 y] w fun e w' => e = .returned (.int .i64 (cmpI x y)) ∧ w = w' := by
  by_cases h1 : x < y
  · have h : cmpI x y = -1 := by simp [cmpI, h1]
    rw [h]
    go_enter Try.func40, Try.ntmps40
    go_wp2_with (first
      | (go_at_call 54; refine (nan_any _ _).mono ?_; rintro e w' ⟨rfl, rfl⟩)
      | fail)
    go_ret
    exact ⟨rfl, rfl⟩
  · by_cases h2 : y < x
    · have h : cmpI x y = 1 := by simp [cmpI, h1, h2]
      rw [h]
      go_enter Try.func40, Try.ntmps40
      go_wp2_with (first
        | (go_at_call 54; refine (nan_any _ _).mono ?_; rintro e w' ⟨rfl, rfl⟩)
        | fail)
      go_ret
      exact ⟨rfl, rfl⟩
    · have h : cmpI x y = 0 := by simp [cmpI, h1, h2]
      rw [h]
      go_enter Try.func40, Try.ntmps40
      go_wp2_with (first
        | (go_at_call 54; refine (nan_any _ _).mono ?_; rintro e w' ⟨rfl, rfl⟩)
        | fail)
      go_ret
      exact ⟨rfl, rfl⟩
/-- The first that is not nothing. -/
def orL : List Int → Int
  | [] => 0
  | x :: l => if x = 0 then orL l else x
theorem orL_drop {vs : List Int} {k : Nat} (hk : k < vs.length) : orL (vs.drop k) = if vs.getD k 0 = 0 then orL (vs.drop (k + 1)) else vs.getD k 0 := by
  rw [getD_of hk, ← List.getElem_cons_drop hk]
  rfl
set_option maxHeartbeats 1000000 in
theorem or_any (g : Nat) (vs : List Int) (n : Nat) (w : World) (h : ArrAt g vs w) (hn : vs.length = n) (hm : n ≤ 140737488355328) :
    Calls Try.prog 39 #[.slice (some ⟨g, 0, none⟩) n n] w fun e w' => e = .returned (.int .i64 (orL vs)) ∧ w = w' := by
  have HA := Lib.hid h
  have HN := Lib.hid hn
  clear h hn
  go_enter Try.func39, Try.ntmps39
  go_wp2_with fail
  go_loopw [8] (fun s8 wr => ∃ k : Nat, s8 = .int .i64 (k : Int) ∧ k ≤ n ∧ orL (vs.drop k) = orL vs ∧ w = wr) (fun s8 _ => n - (intOf s8).toNat)
  case atStart => exact ⟨0, rfl, Nat.zero_le _, rfl, rfl⟩
  case round =>
    obtain ⟨k, rfl, hk, ho, rfl⟩ := hrel
    by_cases hlt : k < n
    · have hki : (k : Int) < (n : Int) := by omega
      have hkl : k < vs.length := by have := HN.out; omega
      have hc := HA.out.cell hkl
      have hd := orL_drop hkl
      obtain ⟨x, hx⟩ : ∃ x, vs.getD k 0 = x := ⟨_, rfl⟩
      rw [hx] at hc hd
      rw [ho] at hd
      by_cases h0 : x = 0
      · subst h0
        have HD := Lib.hid hd
        clear hd ho hx hkl
        go_wp2_with fail
        go_roundw
        case rel => exact ⟨k + 1, by go_num, hlt, by rw [HD.out, if_pos rfl], by trivial⟩
        case measure => simp [intOf] <;> omega
      · rw [if_neg h0] at hd
        have hb : (x != 0) = true := by simp [h0]
        have HD := Lib.hid hd
        clear hd ho hx hkl
        go_wp2_with fail
        go_ret
        exact ⟨by rw [HD.out]; rfl, rfl⟩
    · have hki : ¬ (k : Int) < (n : Int) := by omega
      have h0 : orL vs = 0 := by
        rw [← ho, List.drop_of_length_le (by have := HN.out; omega)]
        rfl
      have HD := Lib.hid h0
      clear ho h0
      go_wp2_with fail
      go_ret
      exact ⟨by rw [HD.out]; rfl, rfl⟩
end Go.Proofs.Ytbnbeailbhnbdaa
