/-
  Order: its comparison.
-/
import Derived.Test.YtbnbeailbhnbdaaCall3
set_option linter.unusedVariables false
set_option linter.unusedSimpArgs false
namespace Go.Proofs.Ytbnbeailbhnbdaa
open Go.RowKit

theorem arr_new2 (W : World) (ds : List Int) : ArrAt W.heap.size ds (W.alloc (.cells (ds.map i64v).toArray 3)) := by
  show (W.heap.push _)[W.heap.size]? = _
  simp
theorem below_chain {W V w1 : World} (h2 : Below V.heap.size V w1) (h1 : Below W.heap.size W V) : Below W.heap.size W w1 := below_step h1 h1.size h2
def lateI (c : CV) : Int := if c.kind = 2 then 1 else 0
theorem late_any (c : CV) (w : World) : Calls Try.prog 36 #[c.val] w (RetInt (lateI c) w) := by
  obtain ⟨c1, c2, c3, c4, c5, c6, c7, c8, c9, c10, c11, c12⟩ := c
  unfold CV.val CV.cells lateI
  go_enter Try.func36, Try.ntmps36
  by_cases h : c4 = 2
  · subst h
    go_wp2_with fail
    go_ret
    exact ⟨rfl, (Below.refl _ _).alloc (Nat.le_refl _) _⟩
  · have h' : (c4 == 2) = false := by simpa using h
    go_wp2_with fail
    go_ret
    exact ⟨rfl, (Below.refl _ _).alloc (Nat.le_refl _) _⟩
def byO (c d : CV) : Int := orL [cmpI c.place d.place, cmpI (lateI c) (lateI d), cmpI c.beg d.beg]
set_option maxHeartbeats 8000000 in
theorem byO_any (c d : CV) (p3 : Nat) (w : World) (hp : w.cell? ⟨p3, 0, none⟩ = some (.func (.func 36) #[] #[])) : Calls Try.prog 38 #[c.val, d.val, .pointer (some ⟨p3, 0, none⟩)] w (RetInt (byO c d) w) := by
  obtain ⟨lc, hlc⟩ : ∃ lc, lateI c = lc := ⟨_, rfl⟩
  obtain ⟨ld, hld⟩ : ∃ ld, lateI d = ld := ⟨_, rfl⟩
  have HLC : Hid (∀ W, Calls Try.prog 36 #[c.val] W (RetInt lc W)) := Lib.hid (fun W => by rw [← hlc]; exact late_any c W)
  have HLD : Hid (∀ W, Calls Try.prog 36 #[d.val] W (RetInt ld W)) := Lib.hid (fun W => by rw [← hld]; exact late_any d W)
  unfold byO
  rw [hlc, hld]
  clear hlc hld
  obtain ⟨c1, c2, c3, c4, c5, c6, c7, c8, c9, c10, c11, c12⟩ := c
  obtain ⟨d1, d2, d3, d4, d5, d6, d7, d8, d9, d10, d11, d12⟩ := d
  unfold CV.val CV.cells at *
  dsimp only at HLC HLD ⊢
  obtain ⟨W, hW⟩ : ∃ W, ((w.alloc (.cells #[.int .i64 c1, .int .i64 c2, .int .i64 c3, .int .i64 c4, .int .i64 c5, .bool c6, .int .i64 c7, .int .i64 c8, .int .i64 c9, .int .i64 c10, c11, c12] 62)).alloc (.cells #[.int .i64 d1, .int .i64 d2, .int .i64 d3, .int .i64 d4, .int .i64 d5, .bool d6, .int .i64 d7, .int .i64 d8, .int .i64 d9, .int .i64 d10, d11, d12] 62)) = W := ⟨_, rfl⟩
  have hb : Below w.heap.size w W := by rw [← hW]; exact ((Below.refl w.heap.size w).alloc (Nat.le_refl _) _).alloc (by simp) _
  have k0 : W.cell? ⟨p3, 0, none⟩ = some (.func (.func 36) #[] #[]) := (hb.cell (World.block_lt_of_cell? _ _ hp)).trans hp
  have j1 : W.cell? ⟨w.heap.size, 0, none⟩ = some (.int .i64 c1) := by rw [← hW]; simp
  have j2 : W.cell? ⟨w.heap.size, 1, none⟩ = some (.int .i64 c2) := by rw [← hW]; simp
  have j3 : W.cell? ⟨w.heap.size, 2, none⟩ = some (.int .i64 c3) := by rw [← hW]; simp
  have j4 : W.cell? ⟨w.heap.size, 3, none⟩ = some (.int .i64 c4) := by rw [← hW]; simp
  have j5 : W.cell? ⟨w.heap.size, 4, none⟩ = some (.int .i64 c5) := by rw [← hW]; simp
  have j6 : W.cell? ⟨w.heap.size, 5, none⟩ = some (.bool c6) := by rw [← hW]; simp
  have j7 : W.cell? ⟨w.heap.size, 6, none⟩ = some (.int .i64 c7) := by rw [← hW]; simp
  have j8 : W.cell? ⟨w.heap.size, 7, none⟩ = some (.int .i64 c8) := by rw [← hW]; simp
  have j9 : W.cell? ⟨w.heap.size, 8, none⟩ = some (.int .i64 c9) := by rw [← hW]; simp
  have j10 : W.cell? ⟨w.heap.size, 9, none⟩ = some (.int .i64 c10) := by rw [← hW]; simp
  have j11 : W.cell? ⟨w.heap.size, 10, none⟩ = some (c11) := by rw [← hW]; simp
  have j12 : W.cell? ⟨w.heap.size, 11, none⟩ = some (c12) := by rw [← hW]; simp
  have k1 : W.cell? ⟨w.heap.size + 1, 0, none⟩ = some (.int .i64 d1) := by rw [← hW]; simp
  have k2 : W.cell? ⟨w.heap.size + 1, 1, none⟩ = some (.int .i64 d2) := by rw [← hW]; simp
  have k3 : W.cell? ⟨w.heap.size + 1, 2, none⟩ = some (.int .i64 d3) := by rw [← hW]; simp
  have k4 : W.cell? ⟨w.heap.size + 1, 3, none⟩ = some (.int .i64 d4) := by rw [← hW]; simp
  have k5 : W.cell? ⟨w.heap.size + 1, 4, none⟩ = some (.int .i64 d5) := by rw [← hW]; simp
  have k6 : W.cell? ⟨w.heap.size + 1, 5, none⟩ = some (.bool d6) := by rw [← hW]; simp
  have k7 : W.cell? ⟨w.heap.size + 1, 6, none⟩ = some (.int .i64 d7) := by rw [← hW]; simp
  have k8 : W.cell? ⟨w.heap.size + 1, 7, none⟩ = some (.int .i64 d8) := by rw [← hW]; simp
  have k9 : W.cell? ⟨w.heap.size + 1, 8, none⟩ = some (.int .i64 d9) := by rw [← hW]; simp
  have k10 : W.cell? ⟨w.heap.size + 1, 9, none⟩ = some (.int .i64 d10) := by rw [← hW]; simp
  have k11 : W.cell? ⟨w.heap.size + 1, 10, none⟩ = some (d11) := by rw [← hW]; simp
  have k12 : W.cell? ⟨w.heap.size + 1, 11, none⟩ = some (d12) := by rw [← hW]; simp
  have HW := Lib.hid hW
  have HB := Lib.hid hb
  obtain ⟨g, hg⟩ : ∃ g, w.heap.size = g := ⟨_, rfl⟩
  rw [hg] at j1 j2 j3 j4 j5 j6 j7 j8 j9 j10 j11 j12 k1 k2 k3 k4 k5 k6 k7 k8 k9 k10 k11 k12
  have HK : Hid (∀ W', Below W.heap.size W W' → W'.cell? ⟨p3, 0, none⟩ = some (.func (.func 36) #[] #[]) ∧ W'.cell? ⟨g, 0, none⟩ = some (.int .i64 c1) ∧ W'.cell? ⟨g, 1, none⟩ = some (.int .i64 c2) ∧ W'.cell? ⟨g, 2, none⟩ = some (.int .i64 c3) ∧ W'.cell? ⟨g, 3, none⟩ = some (.int .i64 c4) ∧ W'.cell? ⟨g, 4, none⟩ = some (.int .i64 c5) ∧ W'.cell? ⟨g, 5, none⟩ = some (.bool c6) ∧ W'.cell? ⟨g, 6, none⟩ = some (.int .i64 c7) ∧ W'.cell? ⟨g, 7, none⟩ = some (.int .i64 c8) ∧ W'.cell? ⟨g, 8, none⟩ = some (.int .i64 c9) ∧ W'.cell? ⟨g, 9, none⟩ = some (.int .i64 c10) ∧ W'.cell? ⟨g, 10, none⟩ = some (c11) ∧ W'.cell? ⟨g, 11, none⟩ = some (c12) ∧ W'.cell? ⟨g + 1, 0, none⟩ = some (.int .i64 d1) ∧ W'.cell? ⟨g + 1, 1, none⟩ = some (.int .i64 d2) ∧ W'.cell? ⟨g + 1, 2, none⟩ = some (.int .i64 d3) ∧ W'.cell? ⟨g + 1, 3, none⟩ = some (.int .i64 d4) ∧ W'.cell? ⟨g + 1, 4, none⟩ = some (.int .i64 d5) ∧ W'.cell? ⟨g + 1, 5, none⟩ = some (.bool d6) ∧ W'.cell? ⟨g + 1, 6, none⟩ = some (.int .i64 d7) ∧ W'.cell? ⟨g + 1, 7, none⟩ = some (.int .i64 d8) ∧ W'.cell? ⟨g + 1, 8, none⟩ = some (.int .i64 d9) ∧ W'.cell? ⟨g + 1, 9, none⟩ = some (.int .i64 d10) ∧ W'.cell? ⟨g + 1, 10, none⟩ = some (d11) ∧ W'.cell? ⟨g + 1, 11, none⟩ = some (d12)) := Lib.hid (fun W' hb' => ⟨(hb'.cell (World.block_lt_of_cell? _ _ k0)).trans k0, (hb'.cell (World.block_lt_of_cell? _ _ j1)).trans j1, (hb'.cell (World.block_lt_of_cell? _ _ j2)).trans j2, (hb'.cell (World.block_lt_of_cell? _ _ j3)).trans j3, (hb'.cell (World.block_lt_of_cell? _ _ j4)).trans j4, (hb'.cell (World.block_lt_of_cell? _ _ j5)).trans j5, (hb'.cell (World.block_lt_of_cell? _ _ j6)).trans j6, (hb'.cell (World.block_lt_of_cell? _ _ j7)).trans j7, (hb'.cell (World.block_lt_of_cell? _ _ j8)).trans j8, (hb'.cell (World.block_lt_of_cell? _ _ j9)).trans j9, (hb'.cell (World.block_lt_of_cell? _ _ j10)).trans j10, (hb'.cell (World.block_lt_of_cell? _ _ j11)).trans j11, (hb'.cell (World.block_lt_of_cell? _ _ j12)).trans j12, (hb'.cell (World.block_lt_of_cell? _ _ k1)).trans k1, (hb'.cell (World.block_lt_of_cell? _ _ k2)).trans k2, (hb'.cell (World.block_lt_of_cell? _ _ k3)).trans k3, (hb'.cell (World.block_lt_of_cell? _ _ k4)).trans k4, (hb'.cell (World.block_lt_of_cell? _ _ k5)).trans k5, (hb'.cell (World.block_lt_of_cell? _ _ k6)).trans k6, (hb'.cell (World.block_lt_of_cell? _ _ k7)).trans k7, (hb'.cell (World.block_lt_of_cell? _ _ k8)).trans k8, (hb'.cell (World.block_lt_of_cell? _ _ k9)).trans k9, (hb'.cell (World.block_lt_of_cell? _ _ k10)).trans k10, (hb'.cell (World.block_lt_of_cell? _ _ k11)).trans k11, (hb'.cell (World.block_lt_of_cell? _ _ k12)).trans k12⟩)
  have HG := Lib.hid hg
  clear hW hb hp k0 j1 j2 j3 j4 j5 j6 j7 j8 j9 j10 j11 j12 k1 k2 k3 k4 k5 k6 k7 k8 k9 k10 k11 k12 hg
  go_enter Try.func38, Try.ntmps38
  go_upto_region 1 with (fail)
  rw [HW.out]
  try rw [HG.out]
  have b0 : Below W.heap.size W W.drew := (Below.refl _ _).drew
  go_region_held3 (fun W' => W'.cell? ⟨p3, 0, none⟩ = some (.func (.func 36) #[] #[]) ∧ W'.cell? ⟨g, 0, none⟩ = some (.int .i64 c1) ∧ W'.cell? ⟨g, 1, none⟩ = some (.int .i64 c2) ∧ W'.cell? ⟨g, 2, none⟩ = some (.int .i64 c3) ∧ W'.cell? ⟨g, 3, none⟩ = some (.int .i64 c4) ∧ W'.cell? ⟨g, 4, none⟩ = some (.int .i64 c5) ∧ W'.cell? ⟨g, 5, none⟩ = some (.bool c6) ∧ W'.cell? ⟨g, 6, none⟩ = some (.int .i64 c7) ∧ W'.cell? ⟨g, 7, none⟩ = some (.int .i64 c8) ∧ W'.cell? ⟨g, 8, none⟩ = some (.int .i64 c9) ∧ W'.cell? ⟨g, 9, none⟩ = some (.int .i64 c10) ∧ W'.cell? ⟨g, 10, none⟩ = some (c11) ∧ W'.cell? ⟨g, 11, none⟩ = some (c12) ∧ W'.cell? ⟨g + 1, 0, none⟩ = some (.int .i64 d1) ∧ W'.cell? ⟨g + 1, 1, none⟩ = some (.int .i64 d2) ∧ W'.cell? ⟨g + 1, 2, none⟩ = some (.int .i64 d3) ∧ W'.cell? ⟨g + 1, 3, none⟩ = some (.int .i64 d4) ∧ W'.cell? ⟨g + 1, 4, none⟩ = some (.int .i64 d5) ∧ W'.cell? ⟨g + 1, 5, none⟩ = some (.bool d6) ∧ W'.cell? ⟨g + 1, 6, none⟩ = some (.int .i64 d7) ∧ W'.cell? ⟨g + 1, 7, none⟩ = some (.int .i64 d8) ∧ W'.cell? ⟨g + 1, 8, none⟩ = some (.int .i64 d9) ∧ W'.cell? ⟨g + 1, 9, none⟩ = some (.int .i64 d10) ∧ W'.cell? ⟨g + 1, 10, none⟩ = some (d11) ∧ W'.cell? ⟨g + 1, 11, none⟩ = some (d12))
    (first
      | (refine HK.out _ ?_; assumption)
      | (refine HK.out _ (below_chain ((Below.refl _ _).alloc (Nat.le_refl _) _) (by assumption)))
      | fail)
    (first
      | (go_at_call 40; refine (compare_any _ _ _).mono ?_; rintro e w' ⟨rfl, rfl⟩)
      | (go_at_call 36; first | (refine (HLC.out _).mono ?_; rintro e w' ⟨rfl, hb'⟩; have hbb := below_chain hb' (by assumption)) | (refine (HLD.out _).mono ?_; rintro e w' ⟨rfl, hb'⟩; have hbb := below_chain hb' (by assumption)))
      | (go_at_call 39; refine (or_any _ [cmpI c5 d5, cmpI lc ld, cmpI c2 d2] 3 _ (arr_new2 _ _) rfl (by decide)).mono ?_; rintro e w' ⟨rfl, rfl⟩)
      | fail)
  all_goals go_wp2_with fail
  all_goals go_ret
  all_goals exact ⟨rfl, below_chain (below_chain ((Below.refl _ _).alloc (Nat.le_refl _) _) (by assumption)) HB.out⟩
end Go.Proofs.Ytbnbeailbhnbdaa
