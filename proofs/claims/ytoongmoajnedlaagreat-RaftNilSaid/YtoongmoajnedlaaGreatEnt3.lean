/-
  Package entries: Last, TermOf of the program.
-/
import Derived.Test.YtoongmoajnedlaaGreatEnt2
set_option linter.unusedVariables false
set_option linter.unusedSimpArgs false
namespace Go.Proofs.YtoongmoajnedlaaGreat
open Go.RowKit

def RetLast (v : Vw) (w : World) (e : Ending) (w' : World) : Prop := e = .returned (.tuple #[.int .i64 (if rightV v then lastV v else 0), .int .i64 (if rightV v then atV v (lastV v) else 0)]) ∧ Below w.heap.size w w'
set_option maxHeartbeats 4000000 in
theorem lastof_any (v : Vw) (A : Option Addr) (n c : Nat) (w : World) (hn : v.l.length = n) (hn2 : n ≤ 140737488355328) (h : SeenE w A v.l) (hs : SmallE v.l) :
    Calls Tryz.prog 110 #[v.val (.slice A n c)] w (RetLast v w) := by
  obtain ⟨W, hW⟩ : ∃ W, w.alloc (.cells #[.int .i64 v.base, .int .i64 v.term, .slice A n c] 48) = W := ⟨_, rfl⟩
  have hb : Below w.heap.size w W := by rw [← hW]; exact (Below.refl _ _).alloc (Nat.le_refl _) _
  have k0 : W.cell? ⟨w.heap.size, 0, none⟩ = some (.int .i64 v.base) := by rw [← hW]; simp
  have k1 : W.cell? ⟨w.heap.size, 1, none⟩ = some (.int .i64 v.term) := by rw [← hW]; simp
  have k2 : W.cell? ⟨w.heap.size, 2, none⟩ = some (.slice A n c) := by rw [← hW]; simp
  have HRT := Lib.hid (rightv_any v A n c W hn hn2 (h.below hb) hs)
  unfold RetLast
  obtain ⟨r, hr⟩ : ∃ r, rightV v = r := ⟨_, rfl⟩
  rw [hr] at HRT ⊢
  obtain ⟨lv, hlv⟩ : ∃ lv, lastV v = lv := ⟨_, rfl⟩
  rw [hlv]
  obtain ⟨av, hav⟩ : ∃ av, atV v lv = av := ⟨_, rfl⟩
  rw [hav]
  have HLVE := Lib.hid hlv
  have HAVE := Lib.hid hav
  have HW := Lib.hid hW
  have HB := Lib.hid hb
  have HRR := Lib.hid hr
  obtain ⟨gb, hgb⟩ : ∃ gb, w.heap.size = gb := ⟨_, rfl⟩
  rw [hgb] at k0 k1 k2
  have HGB := Lib.hid hgb
  have H := Lib.hid h
  have HN := Lib.hid hn
  unfold Vw.val at HRT ⊢
  have HK : Hid (∀ W', Below W.heap.size W W' → W'.cell? ⟨gb, 0, none⟩ = some (.int .i64 v.base) ∧ W'.cell? ⟨gb, 1, none⟩ = some (.int .i64 v.term) ∧ W'.cell? ⟨gb, 2, none⟩ = some (.slice A n c)) := Lib.hid (fun W' hb' => ⟨(hb'.cell (World.block_lt_of_cell? _ _ k0)).trans k0, (hb'.cell (World.block_lt_of_cell? _ _ k1)).trans k1, (hb'.cell (World.block_lt_of_cell? _ _ k2)).trans k2⟩)
  clear hW hb h hn hs hr hgb hlv hav
  go_enter Tryz.func110, Tryz.ntmps110
  go_upto_region 1 with fail
  rw [HW.out]
  try rw [HGB.out]
  cases r with
  | false =>
    go_wp2_with (first
      | (go_at_call 18; refine HRT.out.mono ?_; rintro e w2 ⟨rfl, hb2⟩; have HB2 := Lib.hid (below_step HB.out HB.out.size hb2); clear hb2)
      | fail)
    go_ret2
    exact ⟨rfl, HB2.out⟩
  | true =>
    obtain ⟨b1, b2, t1, t2, n1, hrow⟩ := rightV_iff.1 HRR.out
    rw [HN.out] at n1
    have HLA := Lib.hid (fun W' => last_any v A n c W' HN.out (by omega) (by omega) (by omega))
    have HLV : Hid (lastV v = v.base + (n : Int)) := Lib.hid (by unfold lastV; rw [HN.out])
    have HAT := Lib.hid (fun W' (hb' : Below w.heap.size w W') => at_any v (lastV v) A n c W' HN.out (by omega) (by omega) (by omega) (H.out.below hb') (by rw [HLV.out]; omega) (by rw [HLV.out]; omega))
    unfold Vw.val at HLA HAT
    rw [HLVE.out] at HLA HAT
    rw [HAVE.out] at HAT
    clear b1 b2 t1 t2 n1 hrow HLV
    go_upto_region 3 with (first
      | (go_at_call 18; refine HRT.out.mono ?_; rintro e w2 ⟨rfl, hb2⟩; have HB2 := Lib.hid hb2; clear hb2)
      | fail)
    clear k0 k1 k2
    refine wp_region_calm (Later w2) (by kernel_rfl) (by kernel_rfl) (Below.refl _ _).drew (fun hne => ?_)
    have c0 := fun p : InS (Later w2) => (HK.out p.w (below_step HB2.out HB2.out.size p.h)).1
    have c1 := fun p : InS (Later w2) => (HK.out p.w (below_step HB2.out HB2.out.size p.h)).2.1
    have c2 := fun p : InS (Later w2) => (HK.out p.w (below_step HB2.out HB2.out.size p.h)).2.2
    have HBW2 := Lib.hid (below_step HB.out HB.out.size HB2.out)
    repeat (go_big_quiet_step (first
      | (go_at_call 93; exact calm_of (HLA.out _) (by rintro e w' ⟨rfl, hb⟩; exact ⟨rfl, later_step (InS.h _) hb⟩))
      | (go_at_call 94; exact calm_of (HAT.out _ (below_step HBW2.out HBW2.out.size (InS.h _))) (by rintro e w' ⟨rfl, hb⟩; exact ⟨rfl, later_step (InS.h _) hb⟩))
      | fail))
    refine wpQuiet_nil ?_
    rintro _ ⟨p, rfl⟩
    clear c0 c1 c2
    go_wp2_with fail
    go_ret2
    exact ⟨rfl, below_step HBW2.out HBW2.out.size p.h⟩
def RetTerm (v : Vw) (i : Int) (w : World) (e : Ending) (w' : World) : Prop :=
  ∃ a er, e = .returned (.tuple #[.int .i64 a, .int .i64 er]) ∧ Below w.heap.size w w' ∧ (rightV v = false → a = 0 ∧ er = 1) ∧ (rightV v = true → (i < v.base → a = 0 ∧ er = 36) ∧ (lastV v < i → a = 0 ∧ er = 3) ∧ (v.base ≤ i → i ≤ lastV v → a = atV v i ∧ er = 0))
set_option maxHeartbeats 4000000 in
theorem termof_any (v : Vw) (i : Int) (A : Option Addr) (n c : Nat) (w : World) (hn : v.l.length = n) (hn2 : n ≤ 140737488355328) (h : SeenE w A v.l) (hs : SmallE v.l) :
    Calls Tryz.prog 40 #[v.val (.slice A n c), .int .i64 i] w (RetTerm v i w) := by
  obtain ⟨W, hW⟩ : ∃ W, w.alloc (.cells #[.int .i64 v.base, .int .i64 v.term, .slice A n c] 48) = W := ⟨_, rfl⟩
  have hb : Below w.heap.size w W := by rw [← hW]; exact (Below.refl _ _).alloc (Nat.le_refl _) _
  have k0 : W.cell? ⟨w.heap.size, 0, none⟩ = some (.int .i64 v.base) := by rw [← hW]; simp
  have k1 : W.cell? ⟨w.heap.size, 1, none⟩ = some (.int .i64 v.term) := by rw [← hW]; simp
  have k2 : W.cell? ⟨w.heap.size, 2, none⟩ = some (.slice A n c) := by rw [← hW]; simp
  have HRT := Lib.hid (rightv_any v A n c W hn hn2 (h.below hb) hs)
  obtain ⟨r, hr⟩ : ∃ r, rightV v = r := ⟨_, rfl⟩
  rw [hr] at HRT
  have HW := Lib.hid hW
  have HB := Lib.hid hb
  have HRR := Lib.hid hr
  obtain ⟨gb, hgb⟩ : ∃ gb, w.heap.size = gb := ⟨_, rfl⟩
  rw [hgb] at k0 k1 k2
  have HGB := Lib.hid hgb
  have H := Lib.hid h
  have HN := Lib.hid hn
  unfold Vw.val at HRT ⊢
  have HK : Hid (∀ W', Below W.heap.size W W' → W'.cell? ⟨gb, 0, none⟩ = some (.int .i64 v.base) ∧ W'.cell? ⟨gb, 1, none⟩ = some (.int .i64 v.term) ∧ W'.cell? ⟨gb, 2, none⟩ = some (.slice A n c)) := Lib.hid (fun W' hb' => ⟨(hb'.cell (World.block_lt_of_cell? _ _ k0)).trans k0, (hb'.cell (World.block_lt_of_cell? _ _ k1)).trans k1, (hb'.cell (World.block_lt_of_cell? _ _ k2)).trans k2⟩)
  clear hW hb h hn hs hr hgb
  go_enter Tryz.func40, Tryz.ntmps40
  go_upto_region 1 with fail
  rw [HW.out]
  try rw [HGB.out]
  cases r with
  | false =>
    go_wp2_with (first
      | (go_at_call 18; refine HRT.out.mono ?_; rintro e w2 ⟨rfl, hb2⟩; have HB2 := Lib.hid (below_step HB.out HB.out.size hb2); clear hb2)
      | fail)
    go_ret2
    exact ⟨0, 1, rfl, HB2.out, fun _ => ⟨rfl, rfl⟩, fun h => by rw [HRR.out] at h; cases h⟩
  | true =>
    obtain ⟨b1, b2, t1, t2, n1, hrow⟩ := rightV_iff.1 HRR.out
    rw [HN.out] at n1
    have HLA := Lib.hid (fun W' => last_any v A n c W' HN.out (by omega) (by omega) (by omega))
    have HLV : Hid (lastV v = v.base + (n : Int)) := Lib.hid (by unfold lastV; rw [HN.out])
    have HAT := Lib.hid (fun W' (hb' : Below w.heap.size w W') (h1 : v.base ≤ i) (h2 : i ≤ lastV v) => at_any v i A n c W' HN.out (by omega) (by omega) (by omega) (H.out.below hb') h1 (by rw [← HLV.out]; exact h2))
    have hnf : rightV v = false → False := fun h => by rw [HRR.out] at h; cases h
    have HNF := Lib.hid hnf
    have hbl : v.base ≤ lastV v := by rw [HLV.out]; omega
    unfold Vw.val at HLA HAT
    obtain ⟨lv, hlv⟩ : ∃ lv, lastV v = lv := ⟨_, rfl⟩
    rw [hlv] at HLA HAT hbl
    have HLVE := Lib.hid hlv
    clear b1 b2 t1 t2 n1 hrow hlv HLV hnf
    by_cases g1 : i < v.base
    · go_wp2_with (first
        | (go_at_call 18; refine HRT.out.mono ?_; rintro e w2 ⟨rfl, hb2⟩; have HB2 := Lib.hid hb2; obtain ⟨c0, c1, c2⟩ := HK.out _ hb2; clear hb2)
        | fail)
      go_ret2
      exact ⟨0, 36, rfl, below_step HB.out HB.out.size HB2.out, fun h => (HNF.out h).elim, fun _ => ⟨fun _ => ⟨rfl, rfl⟩, fun h => absurd h (by rw [HLVE.out]; omega), fun h => absurd h (by omega)⟩⟩
    · by_cases g2 : lv < i
      · go_wp2_with (first
          | (go_at_call 18; refine HRT.out.mono ?_; rintro e w2 ⟨rfl, hb2⟩; have HB2 := Lib.hid hb2; obtain ⟨c0, c1, c2⟩ := HK.out _ hb2; clear hb2)
          | (go_at_call 93; refine (HLA.out _).mono ?_; rintro e w3 ⟨rfl, hb3⟩; have HB3 := Lib.hid (below_step HB2.out HB2.out.size hb3); clear hb3)
          | fail)
        go_ret2
        exact ⟨0, 3, rfl, below_step HB.out HB.out.size HB3.out, fun h => (HNF.out h).elim, fun _ => ⟨fun h => absurd h (by omega), fun _ => ⟨rfl, rfl⟩, fun _ h => absurd h (by rw [HLVE.out]; omega)⟩⟩
      · have HA := Lib.hid (fun W' hb' => HAT.out W' hb' (by omega) (by omega))
        obtain ⟨av, hav⟩ : ∃ av, atV v i = av := ⟨_, rfl⟩
        rw [hav] at HA
        have HAV := Lib.hid hav
        clear hav HAT
        go_wp2_with (first
          | (go_at_call 18; refine HRT.out.mono ?_; rintro e w2 ⟨rfl, hb2⟩; have HB2 := Lib.hid hb2; obtain ⟨c0, c1, c2⟩ := HK.out _ hb2; clear hb2)
          | (go_at_call 93; refine (HLA.out _).mono ?_; rintro e w3 ⟨rfl, hb3⟩; have HB3 := Lib.hid (below_step HB2.out HB2.out.size hb3); clear c0 c1 c2; obtain ⟨c0, c1, c2⟩ := HK.out _ HB3.out; clear hb3)
          | (go_at_call 94; refine (HA.out _ (below_step HB.out HB.out.size HB3.out)).mono ?_; rintro e w4 ⟨rfl, hb4⟩; have HB4 := Lib.hid (below_step HB3.out HB3.out.size hb4); clear hb4)
          | fail)
        go_ret2
        exact ⟨av, 0, rfl, below_step HB.out HB.out.size HB4.out, fun h => (HNF.out h).elim, fun _ => ⟨fun h => absurd h (by omega), fun h => absurd h (by rw [HLVE.out]; omega), fun _ _ => ⟨HAV.out.symm, rfl⟩⟩⟩
end Go.Proofs.YtoongmoajnedlaaGreat
