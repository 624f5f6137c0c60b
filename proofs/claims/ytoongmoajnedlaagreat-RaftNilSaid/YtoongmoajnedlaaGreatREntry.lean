/-
  The reference's RightEntry.
-/
import Derived.Test.YtoongmoajnedlaaGreatRServ
import Derived.Test.YtoongmoajnedlaaGreatEntry
set_option linter.unusedVariables false
set_option linter.unusedSimpArgs false
namespace Go.Proofs.YtoongmoajnedlaaGreat
open Go.RowKit

set_option maxHeartbeats 4000000 in
theorem rright_any (x : Ent) (A : Option Addr) (n c : Nat) (w : World) (hn : x.data.length = n) (hc : n ≤ c) (hl : n ≤ 140737488351232) (h : Sees w A (u8s x.data)) :
    Calls Tryz.prog 153 #[x.val (.slice A n c)] w (RetBool w (rightE x)) := by
  obtain ⟨t, i, k, data⟩ := x
  dsimp only at hn h
  unfold Ent.val
  dsimp only
  obtain ⟨W, hW⟩ : ∃ W, w.alloc (.cells #[.int .i64 t, .int .i64 i, .int .i64 k, .slice A n c] 110) = W := ⟨_, rfl⟩
  have hb : Below w.heap.size w W := by rw [← hW]; exact (Below.refl _ _).alloc (Nat.le_refl _) _
  have k0 : W.cell? ⟨w.heap.size, 0, none⟩ = some (.int .i64 t) := by rw [← hW]; simp
  have k1 : W.cell? ⟨w.heap.size, 1, none⟩ = some (.int .i64 i) := by rw [← hW]; simp
  have k2 : W.cell? ⟨w.heap.size, 2, none⟩ = some (.int .i64 k) := by rw [← hW]; simp
  have k3 : W.cell? ⟨w.heap.size, 3, none⟩ = some (.slice A n c) := by rw [← hW]; simp
  have HW := Lib.hid hW
  have HB := Lib.hid hb
  have HGS := Lib.hid (rgetservers_any A data n c W hn hc hl (h.below hb))
  have hlen : rightE ⟨t, i, k, data⟩ = ((decide (1 ≤ t) && decide (t < 1099511627776) && (decide (1 ≤ i) && decide (i < 1099511627776))) && (if k = 1 then decide (n = 0) else if k = 2 then decide (n ≤ 4096) else if k = 3 then servB data else false)) := by
    unfold rightE
    rw [← hn]
  have HR := Lib.hid hlen
  clear hW hb hlen h hn
  by_cases g1 : 1 ≤ t ∧ t < 1099511627776 ∧ 1 ≤ i ∧ i < 1099511627776
  · obtain ⟨t1, t2, i1, i2⟩ := g1
    have HR2 : Hid (rightE ⟨t, i, k, data⟩ = (if k = 1 then decide (n = 0) else if k = 2 then decide (n ≤ 4096) else if k = 3 then servB data else false)) := Lib.hid (by rw [HR.out, decide_eq_true t1, decide_eq_true t2, decide_eq_true i1, decide_eq_true i2]; rfl)
    have t1' : ¬ t < 1 := by omega
    have t2' : ¬ (1099511627776 : Int) ≤ t := by omega
    have i1' : ¬ i < 1 := by omega
    have i2' : ¬ (1099511627776 : Int) ≤ i := by omega
    clear HR
    by_cases q1 : k = 1
    · subst q1
      have HR3 : Hid (rightE ⟨t, i, 1, data⟩ = decide (n = 0)) := Lib.hid (by rw [HR2.out, if_pos rfl])
      clear HR2
      go_enter Tryz.func153, Tryz.ntmps153
      go_upto_region 1 with fail
      rw [HW.out]
      go_wp2_with fail
      go_ret
      refine ⟨?_, HB.out⟩
      rw [HR3.out]
      by_cases h0 : n = 0
      · subst h0; rfl
      · simp [h0]
    · have q1' : (k == 1) = false := by simpa using q1
      by_cases q2 : k = 2
      · subst q2
        have HR3 : Hid (rightE ⟨t, i, 2, data⟩ = decide (n ≤ 4096)) := Lib.hid (by rw [HR2.out, if_neg (by decide), if_pos rfl])
        clear HR2
        go_enter Tryz.func153, Tryz.ntmps153
        go_upto_region 1 with fail
        rw [HW.out]
        go_wp2_with fail
        go_ret
        refine ⟨?_, HB.out⟩
        rw [HR3.out]
        by_cases h0 : n ≤ 4096
        · have : (n : Int) ≤ 4096 := by omega
          simp [h0, this]
        · have : ¬ (n : Int) ≤ 4096 := by omega
          simp [h0, this]
      · have q2' : (k == 2) = false := by simpa using q2
        by_cases q3 : k = 3
        · subst q3
          have HR3 : Hid (rightE ⟨t, i, 3, data⟩ = servB data) := Lib.hid (by rw [HR2.out, if_neg (by decide), if_neg (by decide), if_pos rfl])
          clear HR2
          go_enter Tryz.func153, Tryz.ntmps153
          go_upto_region 1 with fail
          rw [HW.out]
          go_wp2_with (first
            | (go_at_call 179; refine HGS.out.mono ?_; rintro e w2 ⟨A1, n1, c1, er, rfl, he, hb2⟩; have HE := Lib.hid he; have HB2 := Lib.hid (below_step HB.out HB.out.size hb2); clear he hb2)
            | fail)
          go_ret
          refine ⟨?_, HB2.out⟩
          rw [HR3.out, ← HE.out]
          rfl
        · have q3' : (k == 3) = false := by simpa using q3
          have HR3 : Hid (rightE ⟨t, i, k, data⟩ = false) := Lib.hid (by rw [HR2.out, if_neg q1, if_neg q2, if_neg q3])
          clear HR2
          go_enter Tryz.func153, Tryz.ntmps153
          go_upto_region 1 with fail
          rw [HW.out]
          go_wp2_with fail
          go_ret
          refine ⟨?_, HB.out⟩
          rw [HR3.out]
          rfl
  · have HR3 : Hid (rightE ⟨t, i, k, data⟩ = false) := Lib.hid (by
      rw [HR.out]
      have : (decide (1 ≤ t) && decide (t < 1099511627776) && (decide (1 ≤ i) && decide (i < 1099511627776))) = false := by
        cases h : (decide (1 ≤ t) && decide (t < 1099511627776) && (decide (1 ≤ i) && decide (i < 1099511627776))) with
        | false => rfl
        | true =>
          simp only [Bool.and_eq_true, decide_eq_true_eq] at h
          exact absurd ⟨h.1.1, h.1.2, h.2.1, h.2.2⟩ g1
      rw [this, Bool.false_and])
    clear HR
    have hways : t < 1 ∨ (¬ t < 1 ∧ 1099511627776 ≤ t) ∨ (¬ t < 1 ∧ ¬ 1099511627776 ≤ t ∧ i < 1) ∨ (¬ t < 1 ∧ ¬ 1099511627776 ≤ t ∧ ¬ i < 1 ∧ 1099511627776 ≤ i) := by omega
    clear g1
    rcases hways with g1 | ⟨g1, g2⟩ | ⟨g1, g2, g3⟩ | ⟨g1, g2, g3, g4⟩
    all_goals
      go_enter Tryz.func153, Tryz.ntmps153
      go_upto_region 1 with fail
      rw [HW.out]
      go_wp2_with fail
      go_ret
      refine ⟨?_, HB.out⟩
      rw [HR3.out]
      rfl
end Go.Proofs.YtoongmoajnedlaaGreat
