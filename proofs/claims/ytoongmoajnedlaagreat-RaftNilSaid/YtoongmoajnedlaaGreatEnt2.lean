/-
  Package entries: Right, last, at, Last, TermOf of the program.
-/
import Derived.Test.YtoongmoajnedlaaGreatEnt1
import Derived.Test.YtoongmoajnedlaaGreatCalmO
set_option linter.unusedVariables false
set_option linter.unusedSimpArgs false
namespace Go.Proofs.YtoongmoajnedlaaGreat
open Go.RowKit

structure Vw where
  base : Int
  term : Int
  l : List Ent
def Vw.val (v : Vw) (d : Value) : Value := .agg #[.int .i64 v.base, .int .i64 v.term, d]
noncomputable def rightV (v : Vw) : Bool := decide (0 ≤ v.base) && (decide (v.base ≤ 549755813888) && (decide (0 ≤ v.term) && (decide (v.term < 1099511627776) && (decide (v.l.length ≤ 4096) && rowB v.base v.term v.l))))
def lastV (v : Vw) : Int := v.base + (v.l.length : Int)
def e0 : Ent := ⟨0, 0, 0, []⟩
def atV (v : Vw) (i : Int) : Int := if i = v.base then v.term else (v.l.getD (i - v.base - 1).toNat e0).term
theorem rightV_iff {v : Vw} : rightV v = true ↔ 0 ≤ v.base ∧ v.base ≤ 549755813888 ∧ 0 ≤ v.term ∧ v.term < 1099511627776 ∧ v.l.length ≤ 4096 ∧ rowB v.base v.term v.l = true := by
  unfold rightV
  simp only [Bool.and_eq_true, decide_eq_true_eq]
set_option maxHeartbeats 4000000 in
theorem rightv_any (v : Vw) (A : Option Addr) (n c : Nat) (w : World) (hn : v.l.length = n) (hn2 : n ≤ 140737488355328) (h : SeenE w A v.l) (hs : SmallE v.l) :
    Calls Tryz.prog 18 #[v.val (.slice A n c)] w (RetBool w (rightV v)) := by
  obtain ⟨b, t, l⟩ := v
  dsimp only at hn h hs
  unfold Vw.val
  dsimp only
  obtain ⟨W, hW⟩ : ∃ W, w.alloc (.cells #[.int .i64 b, .int .i64 t, .slice A n c] 48) = W := ⟨_, rfl⟩
  have hb : Below w.heap.size w W := by rw [← hW]; exact (Below.refl _ _).alloc (Nat.le_refl _) _
  have k0 : W.cell? ⟨w.heap.size, 0, none⟩ = some (.int .i64 b) := by rw [← hW]; simp
  have k1 : W.cell? ⟨w.heap.size, 1, none⟩ = some (.int .i64 t) := by rw [← hW]; simp
  have k2 : W.cell? ⟨w.heap.size, 2, none⟩ = some (.slice A n c) := by rw [← hW]; simp
  have HW := Lib.hid hW
  have HB := Lib.hid hb
  have HR : Hid (rightV ⟨b, t, l⟩ = (decide (0 ≤ b) && (decide (b ≤ 549755813888) && (decide (0 ≤ t) && (decide (t < 1099511627776) && (decide (n ≤ 4096) && rowB b t l)))))) := Lib.hid (by unfold rightV; rw [← hn])
  have HROW : Hid (IntOk b → Calls Tryz.prog 76 #[.int .i64 b, .int .i64 t, .slice A n c] W (RetBool W (rowB b t l))) := Lib.hid (fun hi => row_any b t A l n c W hi hn hn2 (h.below hb) hs)
  clear hW hb h hn hs
  by_cases g : 0 ≤ b ∧ b ≤ 549755813888 ∧ 0 ≤ t ∧ t < 1099511627776 ∧ n ≤ 4096
  · obtain ⟨b1, b2, t1, t2, n1⟩ := g
    have n1i : (n : Int) ≤ 4096 := by omega
    have HR2 : Hid (rightV ⟨b, t, l⟩ = rowB b t l) := Lib.hid (by rw [HR.out, decide_eq_true b1, decide_eq_true b2, decide_eq_true t1, decide_eq_true t2, decide_eq_true n1]; simp)
    have HRO := Lib.hid (HROW.out (by unfold IntOk; omega))
    clear HR HROW
    go_enter Tryz.func18, Tryz.ntmps18
    go_upto_region 1 with fail
    rw [HW.out]
    go_wp2_with (first
      | (go_at_call 76; refine HRO.out.mono ?_; rintro e w2 ⟨rfl, hb2⟩; have HB2 := Lib.hid (below_step HB.out HB.out.size hb2); clear hb2)
      | fail)
    go_ret
    exact ⟨by rw [HR2.out]; rfl, HB2.out⟩
  · have HR2 : Hid (rightV ⟨b, t, l⟩ = false) := Lib.hid (by
      cases hh : rightV ⟨b, t, l⟩ with
      | false => rfl
      | true =>
        exfalso
        rw [HR.out] at hh
        simp only [Bool.and_eq_true, decide_eq_true_eq] at hh
        exact g ⟨hh.1, hh.2.1, hh.2.2.1, hh.2.2.2.1, hh.2.2.2.2.1⟩)
    have hways : ¬ 0 ≤ b ∨ (0 ≤ b ∧ ¬ b ≤ 549755813888) ∨ (0 ≤ b ∧ b ≤ 549755813888 ∧ ¬ 0 ≤ t) ∨ (0 ≤ b ∧ b ≤ 549755813888 ∧ 0 ≤ t ∧ ¬ t < 1099511627776) ∨ (0 ≤ b ∧ b ≤ 549755813888 ∧ 0 ≤ t ∧ t < 1099511627776 ∧ ¬ (n : Int) ≤ 4096) := by omega
    clear g HR HROW
    rcases hways with g1 | ⟨g1, g2⟩ | ⟨g1, g2, g3⟩ | ⟨g1, g2, g3, g4⟩ | ⟨g1, g2, g3, g4, g5⟩
    all_goals
      go_enter Tryz.func18, Tryz.ntmps18
      go_upto_region 1 with fail
      rw [HW.out]
      go_wp2_with fail
      go_ret
      exact ⟨by rw [HR2.out]; rfl, HB.out⟩
theorem last_any (v : Vw) (A : Option Addr) (n c : Nat) (w : World) (hn : v.l.length = n) (hn2 : n ≤ 140737488355328) (hb1 : -1 ≤ v.base) (hb2 : v.base ≤ 140737488355328) :
    Calls Tryz.prog 93 #[v.val (.slice A n c)] w fun e w' => e = .returned (.int .i64 (lastV v)) ∧ Below w.heap.size w w' := by
  obtain ⟨b, t, l⟩ := v
  dsimp only at hn hb1 hb2
  unfold Vw.val lastV
  dsimp only
  rw [hn]
  clear hn
  go_enter Tryz.func93, Tryz.ntmps93
  go_wp2_with fail
  go_ret
  exact ⟨rfl, (Below.refl _ _).alloc (Nat.le_refl _) _⟩
set_option maxHeartbeats 1000000 in
theorem at_any (v : Vw) (i : Int) (A : Option Addr) (n c : Nat) (w : World) (hn : v.l.length = n) (hn2 : n ≤ 140737488355328) (hb1 : -1 ≤ v.base) (hb2 : v.base ≤ 140737488355328) (h : SeenE w A v.l) (hi1 : v.base ≤ i) (hi2 : i ≤ v.base + (n : Int)) :
    Calls Tryz.prog 94 #[v.val (.slice A n c), .int .i64 i] w fun e w' => e = .returned (.int .i64 (atV v i)) ∧ Below w.heap.size w w' := by
  obtain ⟨b, t, l⟩ := v
  dsimp only at hn hb1 hb2 h hi1 hi2
  unfold Vw.val atV
  dsimp only
  obtain ⟨W, hW⟩ : ∃ W, w.alloc (.cells #[.int .i64 b, .int .i64 t, .slice A n c] 48) = W := ⟨_, rfl⟩
  have hb : Below w.heap.size w W := by rw [← hW]; exact (Below.refl _ _).alloc (Nat.le_refl _) _
  have k0 : W.cell? ⟨w.heap.size, 0, none⟩ = some (.int .i64 b) := by rw [← hW]; simp
  have k1 : W.cell? ⟨w.heap.size, 1, none⟩ = some (.int .i64 t) := by rw [← hW]; simp
  have k2 : W.cell? ⟨w.heap.size, 2, none⟩ = some (.slice A n c) := by rw [← hW]; simp
  have HW := Lib.hid hW
  have HB := Lib.hid hb
  have H := Lib.hid (h.below hb)
  have HN := Lib.hid hn
  clear hW hb h hn
  by_cases g : i = b
  · subst g
    rw [if_pos rfl]
    go_enter Tryz.func94, Tryz.ntmps94
    go_upto_region 1 with fail
    rw [HW.out]
    go_wp2_with fail
    go_ret
    exact ⟨rfl, HB.out⟩
  · have g' : (i == b) = false := by simpa using g
    rw [if_neg g]
    obtain ⟨k, hk⟩ : ∃ k : Nat, i - b - 1 = (k : Int) := ⟨(i - b - 1).toNat, by omega⟩
    have hkn : k < n := by omega
    have hki : (k : Int) < (n : Int) := by omega
    have hkl : k < l.length := by rw [HN.out]; exact hkn
    have hget : l[k]? = some (l.getD k e0) := by rw [List.getD_eq_getElem?_getD, List.getElem?_eq_getElem hkl]; rfl
    obtain ⟨ad, A1, c1, rfl, hcs, _, _⟩ := H.out.at hget
    have z0 : W.cell? (ad.add (k * 4)) = some (.int .i64 (l.getD k e0).term) := by
      have h9 := hcs 0 _ rfl
      rwa [add_zero'] at h9
    have e1 : IntKind.i64.wrap (i - b) = i - b := IntWalk.i64_in _ (by omega)
    have e2 : IntKind.i64.wrap (i - b - 1) = (k : Int) := by rw [← hk]; exact IntWalk.i64_in _ (by omega)
    have HKT : Hid ((i - b - 1).toNat = k) := Lib.hid (by omega)
    rw [HKT.out]
    obtain ⟨tv, htv⟩ : ∃ tv, (l.getD k e0).term = tv := ⟨_, rfl⟩
    rw [htv] at z0 ⊢
    clear hkl hget hcs htv
    go_enter Tryz.func94, Tryz.ntmps94
    go_upto_region 1 with fail
    rw [HW.out]
    go_wp2_with fail
    go_ret
    exact ⟨rfl, HB.out⟩
end Go.Proofs.YtoongmoajnedlaaGreat
