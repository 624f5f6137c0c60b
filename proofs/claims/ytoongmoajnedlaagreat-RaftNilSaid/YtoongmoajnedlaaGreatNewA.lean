/-
  Package raft: the snapshot that is none.
-/
import Derived.Test.YtoongmoajnedlaaGreatRfNil
import Derived.Test.YtoongmoajnedlaaGreatOut
import Derived.Test.YtoongmoajnedlaaGreatServ
import Derived.Test.YtoongmoajnedlaaGreatVcF
import Derived.BigQuiet
import Derived.Test.YtoongmoajnedlaaGreatEnt3
import Derived.Test.YtoongmoajnedlaaGreatVcA
import Derived.Test.YtoongmoajnedlaaGreatTimA
import Derived.Test.YtoongmoajnedlaaGreatReads
import Derived.Test.YtoongmoajnedlaaGreatLone1
import Derived.Test.YtoongmoajnedlaaGreatPhase
set_option linter.unusedVariables false
set_option linter.unusedSimpArgs false
namespace Go.Proofs.YtoongmoajnedlaaGreat
open Go.RowKit

theorem clone_nilI (w : World) : Calls Tryz.prog 86 #[.slice none 0 0] w (fun e w' => e = .returned (.slice none 0 0) ∧ w = w') := by
  have hq := fun (w : World) (a : Option Addr) (n c : Nat) => Lib.run_eql_slice_nil (P := Tryz.prog) w 23 3 a n c 0 0 Tryz.underlying23
  go_enter Tryz.func86, Tryz.ntmps86
  go_wp2
  go_ret
  exact ⟨rfl, rfl⟩
theorem clone_nil8 (w : World) : Calls Tryz.prog 108 #[.slice none 0 0] w (fun e w' => e = .returned (.slice none 0 0) ∧ w = w') := by
  have hq := fun (w : World) (a : Option Addr) (n c : Nat) => Lib.run_eql_slice_nil (P := Tryz.prog) w 29 5 a n c 0 0 Tryz.underlying29
  go_enter Tryz.func108, Tryz.ntmps108
  go_wp2
  go_ret
  exact ⟨rfl, rfl⟩
/-- No snapshot. -/
def snap0 : Value := .agg #[.int .i64 0, .int .i64 0, .slice none 0 0, .slice none 0 0]
set_option maxHeartbeats 4000000 in
theorem own_zero (w : World) : Calls Tryz.prog 87 #[snap0] w (RetV snap0 w) := by
  obtain ⟨W, hW⟩ : ∃ W, (w.alloc (.cells #[.int .i64 0, .int .i64 0, .slice none 0 0, .slice none 0 0] 69)).alloc (.cells #[.int .i64 0, .int .i64 0, .slice none 0 0, .slice none 0 0] 69) = W := ⟨_, rfl⟩
  obtain ⟨gb, hgb⟩ : ∃ gb, w.heap.size = gb := ⟨_, rfl⟩
  have hb : Below w.heap.size w W := by rw [← hW]; exact ((Below.refl _ _).alloc (Nat.le_refl _) _).alloc (by simp) _
  have hz : W.heap.size = gb + 2 := by rw [← hW, ← hgb]; simp
  have x1 : W.heap[gb]? = some (.cells #[.int .i64 0, .int .i64 0, .slice none 0 0, .slice none 0 0] 69 (0, 0)) := by
    rw [← hW, ← hgb]; exact (Below.heap_alloc _ _ _ (by simp)).trans (heap_alloc_new w _)
  have x2 : W.heap[gb + 1]? = some (.cells #[.int .i64 0, .int .i64 0, .slice none 0 0, .slice none 0 0] 69 (0, 0)) := by
    rw [← hW, ← hgb]
    have := heap_alloc_new (w.alloc (.cells #[.int .i64 0, .int .i64 0, .slice none 0 0, .slice none 0 0] 69)) (.cells #[.int .i64 0, .int .i64 0, .slice none 0 0, .slice none 0 0] 69)
    simpa using this
  have k0 := cell_of_row W gb 0 _ _ _ x1
  have k1 := cell_of_row W gb 1 _ _ _ x1
  have k2 := cell_of_row W gb 2 _ _ _ x1
  have k3 := cell_of_row W gb 3 _ _ _ x1
  have kf := frozen_of_cells x1
  simp at k0 k1 k2 k3
  have HB := Lib.hid hb
  have HW := Lib.hid hW
  have HGB := Lib.hid hgb
  have HZ := Lib.hid hz
  have X1 := Lib.hid x1
  have X2 := Lib.hid x2
  clear hb hW hgb hz x1 x2
  unfold snap0
  go_enter Tryz.func87, Tryz.ntmps87
  go_upto_region 1 with fail
  rw [HW.out]
  try rw [HGB.out]
  have HS2 : Hid (∀ W' : World, (W'.cell? ⟨gb, 2, none⟩ = some (.slice none 0 0) ∧ W'.cell? ⟨gb, 3, none⟩ = some (.slice none 0 0)) → (W'.setCell ⟨gb, 2, none⟩ (.slice none 0 0)).cell? ⟨gb, 2, none⟩ = some (.slice none 0 0) ∧ (W'.setCell ⟨gb, 2, none⟩ (.slice none 0 0)).cell? ⟨gb, 3, none⟩ = some (.slice none 0 0)) :=
    Lib.hid (fun W' h => ⟨World.cell?_setCell_same _ _ _ h.1, (World.cell?_setCell_other _ _ _ _ (by simp)).trans h.2⟩)
  have HS3 : Hid (∀ W' : World, (W'.cell? ⟨gb, 2, none⟩ = some (.slice none 0 0) ∧ W'.cell? ⟨gb, 3, none⟩ = some (.slice none 0 0)) → (W'.setCell ⟨gb, 3, none⟩ (.slice none 0 0)).cell? ⟨gb, 2, none⟩ = some (.slice none 0 0) ∧ (W'.setCell ⟨gb, 3, none⟩ (.slice none 0 0)).cell? ⟨gb, 3, none⟩ = some (.slice none 0 0)) :=
    Lib.hid (fun W' h => ⟨(World.cell?_setCell_other _ _ _ _ (by simp)).trans h.1, World.cell?_setCell_same _ _ _ h.2⟩)
  go_region_held3 (fun W' => W'.cell? ⟨gb, 2, none⟩ = some (.slice none 0 0) ∧ W'.cell? ⟨gb, 3, none⟩ = some (.slice none 0 0))
    (first
      | (exact ⟨k2, k3⟩)
      | (refine HS2.out _ ?_; exact ⟨k2, k3⟩)
      | (refine HS3.out _ ?_; exact ⟨k2, k3⟩)
      | (refine HS3.out _ ?_; refine HS2.out _ ?_; exact ⟨k2, k3⟩)
      | fail)
    (first
      | (go_at_call 86; refine (clone_nilI _).mono ?_; rintro e w3 ⟨rfl, rfl⟩)
      | (go_at_call 108; refine (clone_nil8 _).mono ?_; rintro e w3 ⟨rfl, rfl⟩)
      | fail)
  all_goals
    obtain ⟨wx, hwx⟩ : ∃ wx, ((W.setCell ⟨gb, 2, none⟩ (.slice none 0 0)).setCell ⟨gb, 3, none⟩ (.slice none 0 0)).drew = wx := ⟨_, rfl⟩
    have z1 : wx.heap[gb]? = some (.cells #[.int .i64 0, .int .i64 0, .slice none 0 0, .slice none 0 0] 69 (0, 0)) := by
      rw [← hwx]; simp [World.drew, World.setCell, Array.getElem?_modify, X1.out]
    have z2 : wx.heap[gb + 1]? = some (.cells #[.int .i64 0, .int .i64 0, .slice none 0 0, .slice none 0 0] 69 (0, 0)) := by
      rw [← hwx]; simp [World.drew, World.setCell, Array.getElem?_modify, X2.out]
    have hbx : Below w.heap.size w wx := by
      have hg := HGB.out
      rw [← hwx]; exact ((HB.out.setCell (p := ⟨gb, 2, none⟩) (by show w.heap.size ≤ gb; omega) _).setCell (p := ⟨gb, 3, none⟩) (by show w.heap.size ≤ gb; omega) _).drew
    rw [hwx]
    have HBX := Lib.hid hbx
    clear hwx HS2 HS3 HB k0 k1 k2 k3 kf hbx
    have k0 := cell_of_row wx gb 0 _ _ _ z1
    have k1 := cell_of_row wx gb 1 _ _ _ z1
    have k2 := cell_of_row wx gb 2 _ _ _ z1
    have k3 := cell_of_row wx gb 3 _ _ _ z1
    have j0 := cell_of_row wx (gb + 1) 0 _ _ _ z2
    have j1 := cell_of_row wx (gb + 1) 1 _ _ _ z2
    have j2 := cell_of_row wx (gb + 1) 2 _ _ _ z2
    have j3 := cell_of_row wx (gb + 1) 3 _ _ _ z2
    have jf := frozen_of_cells z2
    simp at k0 k1 k2 k3 j0 j1 j2 j3
    have Z2 := Lib.hid z2
    clear z1 z2
    go_wp2_with fail
    have hrow : (((((wx.setCell ⟨gb + 1, 0, none⟩ (.int .i64 0)).setCell ⟨gb + 1, 1, none⟩ (.int .i64 0)).setCell ⟨gb + 1, 2, none⟩ (.slice none 0 0))).setCell ⟨gb + 1, 3, none⟩ (.slice none 0 0)).heap[gb + 1]? = some (.cells #[.int .i64 0, .int .i64 0, .slice none 0 0, .slice none 0 0] 69 (0, 0)) := by
      simp [World.setCell, Array.getElem?_modify, Z2.out]
    refine bodyPost_ret (v := snap0) (results_cell_row rfl _ _ _ _ _ _ _ rfl hrow Tryz.underlying69 rfl (by kernel_rfl)) rfl ?_
    have hg := HGB.out
    exact ⟨rfl, (((HBX.out.setCell (by show _ ≤ gb + 1; omega) _).setCell (by show _ ≤ gb + 1; omega) _).setCell (by show _ ≤ gb + 1; omega) _).setCell (by show _ ≤ gb + 1; omega) _⟩
end Go.Proofs.YtoongmoajnedlaaGreat
/-
  Package raft: which starts may be.
-/
set_option linter.unusedVariables false
set_option linter.unusedSimpArgs false
namespace Go.Proofs.YtoongmoajnedlaaGreat
open Go.RowKit

theorem seesNil {w : World} (A : Option Addr) : Sees w A [] := fun j v h => by simp at h
set_option maxHeartbeats 4000000 in
theorem put_zero (w : World) : Calls Tryz.prog 81 #[snap0] w (fun e w' => e = .returned (.tuple #[.slice none 0 0, .int .i64 1]) ∧ Below w.heap.size w w') := by
  obtain ⟨W, hW⟩ : ∃ W, w.alloc (.cells #[.int .i64 0, .int .i64 0, .slice none 0 0, .slice none 0 0] 69) = W := ⟨_, rfl⟩
  have hb : Below w.heap.size w W := by rw [← hW]; exact (Below.refl _ _).alloc (Nat.le_refl _) _
  have k2 : W.cell? ⟨w.heap.size, 2, none⟩ = some (.slice none 0 0) := by rw [← hW]; simp
  have HP := Lib.hid (putservers_any none [] 0 0 W rfl (seesNil none) (by simp) (by decide))
  have HW := Lib.hid hW
  have HB := Lib.hid hb
  obtain ⟨gb, hgb⟩ : ∃ gb, w.heap.size = gb := ⟨_, rfl⟩
  rw [hgb] at k2
  have HGB := Lib.hid hgb
  clear hW hb hgb
  unfold snap0
  go_enter Tryz.func81, Tryz.ntmps81
  go_upto_region 1 with fail
  rw [HW.out]
  try rw [HGB.out]
  go_wp2_with (first
    | (go_at_call 70; refine HP.out.mono ?_; rintro e w2 ⟨A1, n1, c1, er, rfl, hb2, _, her⟩; obtain rfl := her (by decide); have HB2 := Lib.hid (below_step HB.out HB.out.size hb2); clear hb2 her)
    | fail)
  go_ret2
  exact ⟨rfl, HB2.out⟩
/-- May a start be, without a snapshot? -/
noncomputable def startB (id term : Int) (is : List Int) (v : Vw) : Bool :=
  (decide (0 ≤ id) && (decide (id < 16) && (decide (0 ≤ term) && (decide (term < 1099511627776) && rightV v)))) && (decide (atV v (lastV v) ≤ term) && (decide (v.base = 0) && (decide (v.term = 0) && (decide (is.length = 0) || C.rightB is))))
/-- A start's cells. -/
def startVs (id term : Int) (B : Option Addr) (n d : Nat) (v : Vw) (L : Value) : List Value := [.int .i64 id, .int .i64 term, .int .i64 (-1), .slice B n d, .int .i64 v.base, .int .i64 v.term, L, .int .i64 0, .int .i64 0, .slice none 0 0, .slice none 0 0]
set_option maxRecDepth 16384 in
set_option maxHeartbeats 8000000 in
theorem start_any (id term : Int) (B : Option Addr) (is : List Int) (d : Nat) (v : Vw) (A : Option Addr) (n c : Nat) (w : World) (hd : is.length ≤ d) (hl : is.length ≤ 140737488355328) (hB : Sees w B (is.map i64v))
    (hn : v.l.length = n) (hn2 : n ≤ 140737488355328) (h : SeenE w A v.l) (hs : SmallE v.l) :
    Calls Tryz.prog 84 #[.agg (startVs id term B is.length d v (.slice A n c)).toArray] w (RetBool w (startB id term is v)) := by
  obtain ⟨b, t, l⟩ := v
  obtain ⟨m, hm⟩ : ∃ m, is.length = m := ⟨_, rfl⟩
  unfold startVs
  obtain ⟨W, hW⟩ : ∃ W, w.alloc (.cells #[.int .i64 id, .int .i64 term, .int .i64 (-1), .slice B m d, .int .i64 b, .int .i64 t, .slice A n c, .int .i64 0, .int .i64 0, .slice none 0 0, .slice none 0 0] 85) = W := ⟨_, rfl⟩
  have hb : Below w.heap.size w W := by rw [← hW]; exact (Below.refl _ _).alloc (Nat.le_refl _) _
  obtain ⟨gb, hgb⟩ : ∃ gb, w.heap.size = gb := ⟨_, rfl⟩
  have x1 : W.heap[gb]? = some (.cells #[.int .i64 id, .int .i64 term, .int .i64 (-1), .slice B m d, .int .i64 b, .int .i64 t, .slice A n c, .int .i64 0, .int .i64 0, .slice none 0 0, .slice none 0 0] 85 (0, 0)) := by
    rw [← hW, ← hgb]; exact heap_alloc_new w _
  have HRT := Lib.hid (rightv_any ⟨b, t, l⟩ A n c W hn hn2 (h.below hb) hs)
  have HLT := Lib.hid (fun W' (hb' : Below w.heap.size w W') => lastof_any ⟨b, t, l⟩ A n c W' hn hn2 (h.below hb') hs)
  have HCR := Lib.hid (fun W' (hb' : Below w.heap.size w W') => C.right_any B is d W' hd hl (hB.below hb'))
  have HPZ := Lib.hid put_zero
  unfold snap0 at HPZ
  rw [hm] at HCR
  unfold Vw.val at HRT HLT
  unfold RetLast at HLT
  unfold startB
  rw [hm]
  simp only
  obtain ⟨r, hr⟩ : ∃ r, rightV ⟨b, t, l⟩ = r := ⟨_, rfl⟩
  obtain ⟨cr, hcr⟩ : ∃ cr, C.rightB is = cr := ⟨_, rfl⟩
  obtain ⟨lv, hlv⟩ : ∃ lv, lastV ⟨b, t, l⟩ = lv := ⟨_, rfl⟩
  obtain ⟨av, hav⟩ : ∃ av, atV ⟨b, t, l⟩ lv = av := ⟨_, rfl⟩
  rw [hr] at HRT ⊢
  rw [hr, hlv, hav] at HLT
  rw [hcr] at HCR ⊢
  rw [hlv, hav]
  have HK : Hid (∀ W', Below W.heap.size W W' → W'.heap[gb]? = some (.cells #[.int .i64 id, .int .i64 term, .int .i64 (-1), .slice B m d, .int .i64 b, .int .i64 t, .slice A n c, .int .i64 0, .int .i64 0, .slice none 0 0, .slice none 0 0] 85 (0, 0))) := Lib.hid (fun W' hb' => (hb'.block gb (Array.getElem?_eq_some_iff.1 x1).1).trans x1)
  have HB := Lib.hid hb
  have HW := Lib.hid hW
  have HGB := Lib.hid hgb
  have k0 := cell_of_row W gb 0 _ _ _ x1
  have k1 := cell_of_row W gb 1 _ _ _ x1
  have k2 := cell_of_row W gb 2 _ _ _ x1
  have k4 := cell_of_row W gb 4 _ _ _ x1
  have k5 := cell_of_row W gb 5 _ _ _ x1
  have k6 := cell_of_row W gb 6 _ _ _ x1
  simp at k0 k1 k2 k4 k5 k6
  clear hb hW hgb x1 h hs hB hm hd hl hr hcr hlv hav
  go_enter Tryz.func84, Tryz.ntmps84
  go_upto_region 1 with fail
  rw [HW.out]
  try rw [HGB.out]
  go_wp2_with (first
    | (go_at_call 18; refine HRT.out.mono ?_; rintro e w2 ⟨rfl, hb2⟩; have hx2 := HK.out _ hb2; have j1 := cell_of_row w2 gb 1 _ _ _ hx2; have j4 := cell_of_row w2 gb 4 _ _ _ hx2; have j5 := cell_of_row w2 gb 5 _ _ _ hx2; have j6 := cell_of_row w2 gb 6 _ _ _ hx2; simp at j1 j4 j5 j6; have HB2 := Lib.hid hb2; clear hb2 hx2)
    | (go_at_call 110; refine (HLT.out _ (below_step HB.out HB.out.size HB2.out)).mono ?_; rintro e w3 ⟨rfl, hb3⟩; have hb3' := below_step HB2.out HB2.out.size hb3; have hx3 := HK.out _ hb3'; have i1 := cell_of_row w3 gb 1 _ _ _ hx3; have i4 := cell_of_row w3 gb 4 _ _ _ hx3; have i5 := cell_of_row w3 gb 5 _ _ _ hx3; have i3 := cell_of_row w3 gb 3 _ _ _ hx3; have i7 := cell_of_row w3 gb 7 _ _ _ hx3; have i8 := cell_of_row w3 gb 8 _ _ _ hx3; have i9 := cell_of_row w3 gb 9 _ _ _ hx3; have i10 := cell_of_row w3 gb 10 _ _ _ hx3; simp at i1 i4 i5 i3 i7 i8 i9 i10; have HB3 := Lib.hid hb3'; clear hb3 hb3' hx3)
    | (go_at_call 133; refine (HCR.out _ (below_step HB.out HB.out.size HB3.out)).mono ?_; rintro e w4 ⟨rfl, nq, rfl⟩)
    | (go_at_call 81; refine (HPZ.out _).mono ?_; rintro e w5 ⟨rfl, hb5⟩; have HB5 := Lib.hid (below_step HB3.out HB3.out.size hb5); clear hb5)
    | fail)
  all_goals go_ret
  all_goals refine ⟨congrArg (fun q => Ending.returned (Value.bool q)) ?_, by first | exact below_step HB.out HB.out.size HB5.out | exact below_draws (below_step HB.out HB.out.size HB3.out) _ | exact below_step HB.out HB.out.size HB3.out | exact below_step HB.out HB.out.size HB2.out | exact HB.out⟩
  all_goals
    refine Bool.eq_iff_iff.2 ?_
    cases r <;> cases cr <;> simp at * <;> omega
end Go.Proofs.YtoongmoajnedlaaGreat
/-
  Package raft: New.
-/
set_option linter.unusedVariables false
set_option linter.unusedSimpArgs false
namespace Go.Proofs.YtoongmoajnedlaaGreat
open Go.RowKit

set_option maxHeartbeats 4000000 in
theorem new_bad (o l c : Int) (id term : Int) (B : Option Addr) (is : List Int) (d : Nat) (v : Vw) (A : Option Addr) (n cp : Nat) (draw : Int) (w : World) (hd : is.length ≤ d) (hl : is.length ≤ 140737488355328) (hB : Sees w B (is.map i64v))
    (hn : v.l.length = n) (hn2 : n ≤ 140737488355328) (h : SeenE w A v.l) (hs : SmallE v.l) (hbad : (optB o l c && startB id term is v) = false) :
    Calls Tryz.prog 34 #[.agg #[.int .i64 o, .int .i64 l, .int .i64 c], .agg (startVs id term B is.length d v (.slice A n cp)).toArray, .int .i64 draw] w (fun e w' => e = .returned (.tuple #[.pointer none, .int .i64 1]) ∧ Below w.heap.size w w') := by
  obtain ⟨W, hW⟩ : ∃ W, (w.alloc (.cells #[.int .i64 o, .int .i64 l, .int .i64 c] 78)).alloc (.cells (startVs id term B is.length d v (.slice A n cp)).toArray 85) = W := ⟨_, rfl⟩
  have hb : Below w.heap.size w W := by rw [← hW]; exact ((Below.refl _ _).alloc (Nat.le_refl _) _).alloc (by simp) _
  obtain ⟨gb, hgb⟩ : ∃ gb, w.heap.size = gb := ⟨_, rfl⟩
  have x1 : W.heap[gb]? = some (.cells #[.int .i64 o, .int .i64 l, .int .i64 c] 78 (0, 0)) := by
    rw [← hW, ← hgb]; exact (Below.heap_alloc _ _ _ (by simp)).trans (heap_alloc_new w _)
  have x2 : W.heap[gb + 1]? = some (.cells (startVs id term B is.length d v (.slice A n cp)).toArray 85 (0, 0)) := by
    rw [← hW, ← hgb]
    have := heap_alloc_new (w.alloc (.cells #[.int .i64 o, .int .i64 l, .int .i64 c] 78)) (.cells (startVs id term B is.length d v (.slice A n cp)).toArray 85)
    rw [World.size_alloc] at this
    exact this
  have HO := Lib.hid (opt_any o l c)
  have HS := Lib.hid (fun W' (hb' : Below w.heap.size w W') => start_any id term B is d v A n cp W' hd hl (hB.below hb') hn hn2 (h.below hb') hs)
  obtain ⟨ob, hob⟩ : ∃ ob, optB o l c = ob := ⟨_, rfl⟩
  obtain ⟨sb, hsb⟩ : ∃ sb, startB id term is v = sb := ⟨_, rfl⟩
  obtain ⟨b, t, ents⟩ := v
  obtain ⟨m, hm⟩ : ∃ m, is.length = m := ⟨_, rfl⟩
  rw [hob] at HO hbad
  rw [hsb] at HS hbad
  rw [hm] at HS x2 hW ⊢
  unfold startVs at HS x2 hW ⊢
  simp only at HS x2 hW ⊢
  have HK : Hid (∀ W', Below W.heap.size W W' → W'.heap[gb + 1]? = some (.cells #[.int .i64 id, .int .i64 term, .int .i64 (-1), .slice B m d, .int .i64 b, .int .i64 t, .slice A n cp, .int .i64 0, .int .i64 0, .slice none 0 0, .slice none 0 0] 85 (0, 0))) := Lib.hid (fun W' hb' => (hb'.block (gb + 1) (Array.getElem?_eq_some_iff.1 x2).1).trans x2)
  have HB := Lib.hid hb
  have HW := Lib.hid hW
  have HGB := Lib.hid hgb
  have k0 := cell_of_row W gb 0 _ _ _ x1
  have k1 := cell_of_row W gb 1 _ _ _ x1
  have k2 := cell_of_row W gb 2 _ _ _ x1
  simp at k0 k1 k2
  clear hb hW hgb x1 x2 h hs hB hm hd hl hob hsb
  cases ob with
  | false =>
    clear hbad
    go_enter Tryz.func34, Tryz.ntmps34
    go_upto_region 1 with fail
    rw [HW.out]
    try rw [HGB.out]
    go_wp2_with (first
      | (go_at_call 83; refine (HO.out _).mono ?_; rintro e w2 ⟨rfl, hb2⟩; have HB2 := Lib.hid (below_step HB.out HB.out.size hb2); clear hb2)
      | fail)
    go_ret2
    exact ⟨rfl, HB2.out⟩
  | true =>
    obtain rfl : sb = false := by simpa using hbad
    clear hbad
    go_enter Tryz.func34, Tryz.ntmps34
    go_upto_region 1 with fail
    rw [HW.out]
    try rw [HGB.out]
    go_wp2_with (first
      | (go_at_call 83; refine (HO.out _).mono ?_; rintro e w2 ⟨rfl, hb2⟩; have hx2 := HK.out _ hb2; have j0 := cell_of_row w2 (gb + 1) 0 _ _ _ hx2; have j1 := cell_of_row w2 (gb + 1) 1 _ _ _ hx2; have j2 := cell_of_row w2 (gb + 1) 2 _ _ _ hx2; have j3 := cell_of_row w2 (gb + 1) 3 _ _ _ hx2; have j4 := cell_of_row w2 (gb + 1) 4 _ _ _ hx2; have j5 := cell_of_row w2 (gb + 1) 5 _ _ _ hx2; have j6 := cell_of_row w2 (gb + 1) 6 _ _ _ hx2; have j7 := cell_of_row w2 (gb + 1) 7 _ _ _ hx2; have j8 := cell_of_row w2 (gb + 1) 8 _ _ _ hx2; have j9 := cell_of_row w2 (gb + 1) 9 _ _ _ hx2; have j10 := cell_of_row w2 (gb + 1) 10 _ _ _ hx2; simp at j0 j1 j2 j3 j4 j5 j6 j7 j8 j9 j10; have HB2 := Lib.hid (below_step HB.out HB.out.size hb2); clear hb2 hx2)
      | (go_at_call 84; refine (HS.out _ HB2.out).mono ?_; rintro e w3 ⟨rfl, hb3⟩; have HB3 := Lib.hid (below_step HB2.out HB2.out.size hb3); clear hb3)
      | fail)
    go_ret2
    exact ⟨rfl, HB3.out⟩
end Go.Proofs.YtoongmoajnedlaaGreat
/-
  Package raft: New of what may be.
-/
set_option linter.unusedVariables false
set_option linter.unusedSimpArgs false
namespace Go.Proofs.YtoongmoajnedlaaGreat
open Go.RowKit

/-- The cells of a server that was made. -/
def newVs (o l c id term : Int) (b t : Int) (bk : Nat) (L : Value) (B : Option Addr) (m d tg : Nat) : List Value :=
  [.map none, .map none, .int .i64 0, .int .i64 0, .pointer (some ⟨bk, 0, none⟩), .int .i64 b, .int .i64 t, L, .int .i64 b, .slice B m d, .int .i64 0, .int .i64 0, .slice none 0 0, .slice none 0 0,
    .int .i64 o, .int .i64 l, .int .i64 c, .int .i64 id, .int .i64 term, .int .i64 (-1), .int .i64 0, .int .i64 (-1), .pointer (some ⟨tg, 0, none⟩), .slice none 0 0, .int .i64 0, .int .i64 0, .slice none 0 0, .slice none 0 0,
    .int .i64 0, .int .i64 0, .slice none 0 0, .slice none 0 0, .slice none 0 0, .slice none 0 0, .int .i64 0]
theorem store9 (W : World) (r g j : Nat) (hne : r ≠ g) (a b c d e f h i k : Value) :
    ((((((((((W.setCell ⟨r, 5, none⟩ a).setCell ⟨r, 6, none⟩ b).setCell ⟨r, 7, none⟩ c).setCell ⟨r, 8, none⟩ d).setCell ⟨r, 9, none⟩ e).setCell ⟨r, 10, none⟩ f).setCell ⟨r, 11, none⟩ h).setCell ⟨r, 12, none⟩ i).setCell ⟨r, 13, none⟩ k)).cell? ⟨g, j, none⟩ = W.cell? ⟨g, j, none⟩ := by
  have key : ∀ (W : World) (o : Nat) (v : Value), (W.setCell ⟨r, o, none⟩ v).cell? ⟨g, j, none⟩ = W.cell? ⟨g, j, none⟩ := fun W o v => World.cell?_setCell_far W ⟨r, o, none⟩ ⟨g, j, none⟩ v hne
  simp only [key]
/-- A server was made. -/
def RetNew (o l c id term : Int) (is : List Int) (v : Vw) (draw : Int) (w : World) (e : Ending) (w' : World) : Prop :=
  ∃ (r bk tg : Nat) (A : Option Addr) (n cp : Nat) (B : Option Addr) (d : Nat), e = .returned (.tuple #[.pointer (some ⟨r, 0, none⟩), .int .i64 0]) ∧ w.heap.size ≤ r ∧ w.heap.size ≤ tg ∧
    RAt w' r (newVs o l c id term v.base v.term bk (.slice A n cp) B is.length d tg) ∧ OwnsE w.heap.size (.slice A n cp) n (fromL v 0) w' ∧
    w'.ownsRow w.heap.size 3 1 (.slice B is.length d) is.length (is.map i64v) ∧ TimerAt w' tg 0 (limitV o draw) o ∧ Below w.heap.size w w'
set_option maxRecDepth 16384 in
set_option maxHeartbeats 8000000 in
theorem new_good (o l c : Int) (id term : Int) (B : Option Addr) (is : List Int) (d : Nat) (v : Vw) (A : Option Addr) (n cp : Nat) (draw : Int) (w : World) (hd : is.length ≤ d) (hl : is.length * 8 ≤ 140737488355328) (hB : Sees w B (is.map i64v))
    (hn : v.l.length = n) (hn2 : n * 48 ≤ 140737488351232) (h : SeenE w A v.l) (hs : SmallE v.l) (hop : optB o l c = true) (hst : startB id term is v = true) :
    Calls Tryz.prog 34 #[.agg #[.int .i64 o, .int .i64 l, .int .i64 c], .agg (startVs id term B is.length d v (.slice A n cp)).toArray, .int .i64 draw] w (RetNew o l c id term is v draw w) := by
  obtain ⟨W, hW⟩ : ∃ W, (w.alloc (.cells #[.int .i64 o, .int .i64 l, .int .i64 c] 78)).alloc (.cells (startVs id term B is.length d v (.slice A n cp)).toArray 85) = W := ⟨_, rfl⟩
  have hb : Below w.heap.size w W := by rw [← hW]; exact ((Below.refl _ _).alloc (Nat.le_refl _) _).alloc (by simp) _
  obtain ⟨gb, hgb⟩ : ∃ gb, w.heap.size = gb := ⟨_, rfl⟩
  have hz : W.heap.size = gb + 2 := by rw [← hW, ← hgb]; simp
  have x1 : W.heap[gb]? = some (.cells #[.int .i64 o, .int .i64 l, .int .i64 c] 78 (0, 0)) := by
    rw [← hW, ← hgb]; exact (Below.heap_alloc _ _ _ (by simp)).trans (heap_alloc_new w _)
  have x2 : W.heap[gb + 1]? = some (.cells (startVs id term B is.length d v (.slice A n cp)).toArray 85 (0, 0)) := by
    rw [← hW, ← hgb]
    have := heap_alloc_new (w.alloc (.cells #[.int .i64 o, .int .i64 l, .int .i64 c] 78)) (.cells (startVs id term B is.length d v (.slice A n cp)).toArray 85)
    rw [World.size_alloc] at this
    exact this
  have HO := Lib.hid (opt_any o l c)
  have HS := Lib.hid (fun W' (hb' : Below w.heap.size w W') => start_any id term B is d v A n cp W' hd (by omega) (hB.below hb') hn (by omega) (h.below hb') hs)
  have HF := Lib.hid (fun W' (hb' : Below w.heap.size w W') => from_any v 0 A n cp W' hn hn2 (h.below hb') hs)
  have HCL := Lib.hid (fun W' (hb' : Below w.heap.size w W') => C.clone_ints B is d W' hd hl (hB.below hb'))
  have HOZ := Lib.hid own_zero
  unfold snap0 at HOZ
  have ho := optB_iff.1 hop
  have HTN := Lib.hid (fun W' => tnew_any o draw W' (by omega) (by omega))
  have hid0 : 0 ≤ id ∧ id < 16 := by unfold startB at hst; simp at hst; omega
  have HBN := Lib.hid (fun W' => bnew_any id W' hid0.1 hid0.2)
  rw [hop] at HO
  rw [hst] at HS
  obtain ⟨fl, hfl⟩ : ∃ fl, fromL v 0 = fl := ⟨_, rfl⟩
  unfold RetNew
  unfold RetFromP at HF
  rw [hfl] at HF ⊢
  obtain ⟨b, t, ents⟩ := v
  obtain ⟨m, hm⟩ : ∃ m, is.length = m := ⟨_, rfl⟩
  unfold C.RetInts at HCL
  unfold Vw.val at HF
  rw [hm] at HS HCL x2 hW ⊢
  unfold startVs at HS x2 hW ⊢
  simp only at HS HF x2 hW ⊢
  have HK : Hid (∀ W', Below W.heap.size W W' → W'.heap[gb]? = some (.cells #[.int .i64 o, .int .i64 l, .int .i64 c] 78 (0, 0)) ∧ W'.heap[gb + 1]? = some (.cells #[.int .i64 id, .int .i64 term, .int .i64 (-1), .slice B m d, .int .i64 b, .int .i64 t, .slice A n cp, .int .i64 0, .int .i64 0, .slice none 0 0, .slice none 0 0] 85 (0, 0))) := Lib.hid (fun W' hb' => ⟨(hb'.block gb (Array.getElem?_eq_some_iff.1 x1).1).trans x1, (hb'.block (gb + 1) (Array.getElem?_eq_some_iff.1 x2).1).trans x2⟩)
  have HB := Lib.hid hb
  have HW := Lib.hid hW
  have HGB := Lib.hid hgb
  have HZ := Lib.hid hz
  have k0 := cell_of_row W gb 0 _ _ _ x1
  have k1 := cell_of_row W gb 1 _ _ _ x1
  have k2 := cell_of_row W gb 2 _ _ _ x1
  simp at k0 k1 k2
  clear hb hW hgb x1 x2 h hs hB hm hd hl hop hst hz hfl ho hid0 hn hn2
  go_enter Tryz.func34, Tryz.ntmps34
  go_upto_region 1 with fail
  rw [HW.out]
  try rw [HGB.out]
  go_upto_region 6 with (first
    | (go_at_call 83; refine (HO.out _).mono ?_; rintro e w2 ⟨rfl, hb2⟩; have hx2 := (HK.out _ hb2).2; have j0 := cell_of_row w2 (gb + 1) 0 _ _ _ hx2; have j1 := cell_of_row w2 (gb + 1) 1 _ _ _ hx2; have j2 := cell_of_row w2 (gb + 1) 2 _ _ _ hx2; have j3 := cell_of_row w2 (gb + 1) 3 _ _ _ hx2; have j4 := cell_of_row w2 (gb + 1) 4 _ _ _ hx2; have j5 := cell_of_row w2 (gb + 1) 5 _ _ _ hx2; have j6 := cell_of_row w2 (gb + 1) 6 _ _ _ hx2; have j7 := cell_of_row w2 (gb + 1) 7 _ _ _ hx2; have j8 := cell_of_row w2 (gb + 1) 8 _ _ _ hx2; have j9 := cell_of_row w2 (gb + 1) 9 _ _ _ hx2; have j10 := cell_of_row w2 (gb + 1) 10 _ _ _ hx2; simp at j0 j1 j2 j3 j4 j5 j6 j7 j8 j9 j10; have HB2 := Lib.hid hb2; clear hb2 hx2)
    | (go_at_call 84; refine (HS.out _ (below_step HB.out HB.out.size HB2.out)).mono ?_; rintro e w3 ⟨rfl, hb3⟩; have HB3 := Lib.hid (below_step HB2.out HB2.out.size hb3); have hx3 := (HK.out _ HB3.out).1; have i0 := cell_of_row w3 gb 0 _ _ _ hx3; simp at i0; clear hb3 hx3)
    | (go_at_call 85; refine (HTN.out _).mono ?_; rintro e w4 ⟨tg, rfl, htz, htm, hb4⟩; have HB4 := Lib.hid (below_step HB3.out HB3.out.size hb4); have HTM := Lib.hid htm; have HTZ := Lib.hid htz; clear htm htz hb4)
    | fail)
  have hx4 := (HK.out _ HB4.out).2
  have q4 := cell_of_row w4 (gb + 1) 4 _ _ _ hx4
  have q5 := cell_of_row w4 (gb + 1) 5 _ _ _ hx4
  have q6 := cell_of_row w4 (gb + 1) 6 _ _ _ hx4
  simp at q4 q5 q6
  clear hx4 i0 j0 j1 j2 j3 j4 j5 j6 j7 j8 j9 j10 k0 k1 k2
  go_upto_region 7 with (first
    | (go_at_call 77; refine (HF.out _ (below_step HB.out HB.out.size HB4.out)).mono ?_; rintro e w5 ⟨A5, n5, c5, rfl, how5, hb5⟩; have HB5 := Lib.hid (below_step HB4.out HB4.out.size hb5); have HH5 := Lib.hid hb5; have HOW5 := Lib.hid how5; obtain ⟨hx5, hy5⟩ := HK.out _ HB5.out; have g0 := cell_of_row w5 (gb + 1) 0 _ _ _ hy5; have g1 := cell_of_row w5 (gb + 1) 1 _ _ _ hy5; have g2 := cell_of_row w5 (gb + 1) 2 _ _ _ hy5; have g6 := cell_of_row w5 (gb + 1) 6 _ _ _ hy5; have gf := frozen_of_cells hy5; have h0 := cell_of_row w5 gb 0 _ _ _ hx5; have h1 := cell_of_row w5 gb 1 _ _ _ hx5; have h2 := cell_of_row w5 gb 2 _ _ _ hx5; simp at g0 g1 g2 g6 h0 h1 h2; clear hb5 how5 hx5 hy5)
    | fail)
  obtain ⟨w6, hw6⟩ : ∃ w6, w5.setCell ⟨gb + 1, 6, none⟩ (.slice A5 n5 c5) = w6 := ⟨_, rfl⟩
  have hb6 : Below w.heap.size w w6 := by
    have hg := HGB.out
    rw [← hw6]; exact (below_step HB.out HB.out.size HB5.out).setCell (p := ⟨gb + 1, 6, none⟩) (by show w.heap.size ≤ gb + 1; omega) _
  have hx6 : w6.heap[gb]? = some (.cells #[.int .i64 o, .int .i64 l, .int .i64 c] 78 (0, 0)) := by
    rw [← hw6]; exact (Below.heap_setCell _ _ _ _ (by show gb ≠ gb + 1; omega)).trans (HK.out _ HB5.out).1
  have hy6 : w6.heap[gb + 1]? = some (.cells #[.int .i64 id, .int .i64 term, .int .i64 (-1), .slice B m d, .int .i64 b, .int .i64 t, .slice A5 n5 c5, .int .i64 0, .int .i64 0, .slice none 0 0, .slice none 0 0] 85 (0, 0)) := by
    rw [← hw6]; simp [World.setCell, Array.getElem?_modify, (HK.out _ HB5.out).2]
  have how6 : OwnsE w4.heap.size (.slice A5 n5 c5) n5 fl w6 := by
    rw [← hw6]; exact OwnsE.far HOW5.out ⟨gb + 1, 6, none⟩ (by show gb + 1 < w4.heap.size; have := HB4.out.size; have := HZ.out; omega) _
  have htm6 : TimerAt w6 tg 0 (limitV o draw) o := by
    rw [← hw6]
    unfold TimerAt
    have h9 := HTM.out
    unfold TimerAt at h9
    have hsz := HTZ.out
    have hne : tg ≠ gb + 1 := by have := HB3.out.size; have := HZ.out; omega
    exact (Below.heap_setCell _ _ _ _ hne).trans ((HH5.out.block tg (Array.getElem?_eq_some_iff.1 h9).1).trans h9)
  have htg9 : w.heap.size ≤ tg := by have := HTZ.out; have := HB3.out.size; have := HB.out.size; omega
  have HTG9 := Lib.hid htg9
  clear htg9
  rw [hw6]
  have HW6 := Lib.hid hw6
  clear hw6 q4 q5 q6 g0 g1 g2 g6 gf h0 h1 h2
  have g0 := cell_of_row w6 (gb + 1) 0 _ _ _ hy6
  have g1 := cell_of_row w6 (gb + 1) 1 _ _ _ hy6
  have g2 := cell_of_row w6 (gb + 1) 2 _ _ _ hy6
  have h0 := cell_of_row w6 gb 0 _ _ _ hx6
  have h1 := cell_of_row w6 gb 1 _ _ _ hx6
  have h2 := cell_of_row w6 gb 2 _ _ _ hx6
  simp at g0 g1 g2 h0 h1 h2
  have HY6 := Lib.hid hy6
  have HB6 := Lib.hid hb6
  have HOW6 := Lib.hid how6
  have HTM6 := Lib.hid htm6
  clear hx6 hy6 hb6 how6 htm6
  go_upto_region 8 with fail
  obtain ⟨r, hr⟩ : ∃ r, w6.heap.size = r := ⟨_, rfl⟩
  obtain ⟨w7, hw7⟩ : ∃ w7, w6.alloc (.cells #[.map none, .map none, .int .i64 0, .int .i64 0, .pointer none, .int .i64 0, .int .i64 0, .slice none 0 0, .int .i64 0, .slice none 0 0, .int .i64 0, .int .i64 0, .slice none 0 0, .slice none 0 0,
    .int .i64 o, .int .i64 l, .int .i64 c, .int .i64 id, .int .i64 term, .int .i64 (-1), .int .i64 0, .int .i64 (-1), .pointer (some ⟨tg, 0, none⟩), .slice none 0 0, .int .i64 0, .int .i64 0, .slice none 0 0, .slice none 0 0,
    .int .i64 0, .int .i64 0, .slice none 0 0, .slice none 0 0, .slice none 0 0, .slice none 0 0, .int .i64 0] 81) = w7 := ⟨_, rfl⟩
  have hr7 : RAt w7 r [.map none, .map none, .int .i64 0, .int .i64 0, .pointer none, .int .i64 0, .int .i64 0, .slice none 0 0, .int .i64 0, .slice none 0 0, .int .i64 0, .int .i64 0, .slice none 0 0, .slice none 0 0,
      .int .i64 o, .int .i64 l, .int .i64 c, .int .i64 id, .int .i64 term, .int .i64 (-1), .int .i64 0, .int .i64 (-1), .pointer (some ⟨tg, 0, none⟩), .slice none 0 0, .int .i64 0, .int .i64 0, .slice none 0 0, .slice none 0 0,
      .int .i64 0, .int .i64 0, .slice none 0 0, .slice none 0 0, .slice none 0 0, .slice none 0 0, .int .i64 0] := by
    rw [← hw7, ← hr]; exact heap_alloc_new w6 _
  have hb7 : Below w6.heap.size w6 w7 := by rw [← hw7]; exact (Below.refl _ _).alloc (Nat.le_refl _) _
  have hne : r ≠ gb + 1 := by have := (Array.getElem?_eq_some_iff.1 HY6.out).1; omega
  have hy7 : w7.heap[gb + 1]? = some (.cells #[.int .i64 id, .int .i64 term, .int .i64 (-1), .slice B m d, .int .i64 b, .int .i64 t, .slice A5 n5 c5, .int .i64 0, .int .i64 0, .slice none 0 0, .slice none 0 0] 85 (0, 0)) := (hb7.block _ (Array.getElem?_eq_some_iff.1 HY6.out).1).trans HY6.out
  rw [hw7, hr]
  have HNE := Lib.hid hne
  have HR := Lib.hid hr
  have HB7 := Lib.hid hb7
  have HR7 := Lib.hid hr7
  have k0 := cell_of_row w7 (gb + 1) 0 _ _ _ hy7
  have k3 := cell_of_row w7 (gb + 1) 3 _ _ _ hy7
  have k4 := cell_of_row w7 (gb + 1) 4 _ _ _ hy7
  have k5 := cell_of_row w7 (gb + 1) 5 _ _ _ hy7
  have k6 := cell_of_row w7 (gb + 1) 6 _ _ _ hy7
  have k7 := cell_of_row w7 (gb + 1) 7 _ _ _ hy7
  have k8 := cell_of_row w7 (gb + 1) 8 _ _ _ hy7
  have k9 := cell_of_row w7 (gb + 1) 9 _ _ _ hy7
  have k10 := cell_of_row w7 (gb + 1) 10 _ _ _ hy7
  simp at k0 k3 k4 k5 k6 k7 k8 k9 k10
  have hlt : gb + 1 < w7.heap.size := (Array.getElem?_eq_some_iff.1 hy7).1
  have HK8 : Hid (∀ W', Below w7.heap.size w7 W' → W'.cell? ⟨gb + 1, 3, none⟩ = some (.slice B m d) ∧ W'.cell? ⟨gb + 1, 4, none⟩ = some (.int .i64 b) ∧ W'.cell? ⟨gb + 1, 5, none⟩ = some (.int .i64 t) ∧ W'.cell? ⟨gb + 1, 6, none⟩ = some (.slice A5 n5 c5) ∧ W'.cell? ⟨gb + 1, 7, none⟩ = some (.int .i64 0) ∧ W'.cell? ⟨gb + 1, 8, none⟩ = some (.int .i64 0) ∧ W'.cell? ⟨gb + 1, 9, none⟩ = some (.slice none 0 0) ∧ W'.cell? ⟨gb + 1, 10, none⟩ = some (.slice none 0 0)) :=
    Lib.hid (fun W' hb' => ⟨(hb'.cell hlt).trans k3, (hb'.cell hlt).trans k4, (hb'.cell hlt).trans k5, (hb'.cell hlt).trans k6, (hb'.cell hlt).trans k7, (hb'.cell hlt).trans k8, (hb'.cell hlt).trans k9, (hb'.cell hlt).trans k10⟩)
  have HID : Hid (∀ W', Below w7.heap.size w7 W' → W'.cell? ⟨gb + 1, 0, none⟩ = some (.int .i64 id)) := Lib.hid (fun W' hb' => (hb'.cell hlt).trans k0)
  clear hw7 hr hne hb7 hr7 hy7 hlt g0 g1 g2 h0 h1 h2 HK HW HO HS HF HTN HB2 HB3 HTM HTZ HH5 HOW5 HW6 k0 k3 k4 k5 k6 k7 k8 k9 k10
  have bd : Below w7.heap.size w7 w7.drew := (Below.refl _ _).drew
  have hS0 := HK8.out _ bd
  refine wp_region_T 15 (fun W' => W'.cell? ⟨gb + 1, 3, none⟩ = some (.slice B m d) ∧ W'.cell? ⟨gb + 1, 4, none⟩ = some (.int .i64 b) ∧ W'.cell? ⟨gb + 1, 5, none⟩ = some (.int .i64 t) ∧ W'.cell? ⟨gb + 1, 6, none⟩ = some (.slice A5 n5 c5) ∧ W'.cell? ⟨gb + 1, 7, none⟩ = some (.int .i64 0) ∧ W'.cell? ⟨gb + 1, 8, none⟩ = some (.int .i64 0) ∧ W'.cell? ⟨gb + 1, 9, none⟩ = some (.slice none 0 0) ∧ W'.cell? ⟨gb + 1, 10, none⟩ = some (.slice none 0 0)) (by kernel_rfl) ?_
  refine wpAnyT_take (i := 0) (v := ?v0) rfl (by kernel_rfl) (by kernel_rfl) (by kernel_rfl) (by kernel_rfl) (fun _ _ _ h => h) rfl (fun w' hS => ?y0) hS0 ?z0
  case y0 => (obtain ⟨s0, s1, s2, s3, s4, s5, s6, s7⟩ := hS; go_simp; with_reducible rfl)
  try simp only [Act.put, List.getElem_toArray, List.getElem_cons_zero, List.getElem_cons_succ, List.setIfInBounds_toArray, List.set_cons_zero, List.set_cons_succ]
  refine wpAnyT_take (i := 1) (v := ?v1) rfl (by kernel_rfl) (by kernel_rfl) (by kernel_rfl) (by kernel_rfl) (fun _ _ _ h => h) rfl (fun w' hS => ?y1) hS0 ?z1
  case y1 => (obtain ⟨s0, s1, s2, s3, s4, s5, s6, s7⟩ := hS; go_simp; with_reducible rfl)
  try simp only [Act.put, List.getElem_toArray, List.getElem_cons_zero, List.getElem_cons_succ, List.setIfInBounds_toArray, List.set_cons_zero, List.set_cons_succ]
  refine wpAnyT_take (i := 2) (v := ?v2) rfl (by kernel_rfl) (by kernel_rfl) (by kernel_rfl) (by kernel_rfl) (fun _ _ _ h => h) rfl (fun w' hS => ?y2) hS0 ?z2
  case y2 => (obtain ⟨s0, s1, s2, s3, s4, s5, s6, s7⟩ := hS; go_simp; with_reducible rfl)
  try simp only [Act.put, List.getElem_toArray, List.getElem_cons_zero, List.getElem_cons_succ, List.setIfInBounds_toArray, List.set_cons_zero, List.set_cons_succ]
  refine wpAnyT_take (i := 3) (v := ?v3) rfl (by kernel_rfl) (by kernel_rfl) (by kernel_rfl) (by kernel_rfl) (fun _ _ _ h => h) rfl (fun w' hS => ?y3) hS0 ?z3
  case y3 => (obtain ⟨s0, s1, s2, s3, s4, s5, s6, s7⟩ := hS; go_simp; with_reducible rfl)
  try simp only [Act.put, List.getElem_toArray, List.getElem_cons_zero, List.getElem_cons_succ, List.setIfInBounds_toArray, List.set_cons_zero, List.set_cons_succ]
  refine wpAnyT_take (i := 4) (v := ?v4) rfl (by kernel_rfl) (by kernel_rfl) (by kernel_rfl) (by kernel_rfl) (fun _ _ _ h => h) rfl (fun w' hS => ?y4) hS0 ?z4
  case y4 => (obtain ⟨s0, s1, s2, s3, s4, s5, s6, s7⟩ := hS; go_simp; with_reducible rfl)
  try simp only [Act.put, List.getElem_toArray, List.getElem_cons_zero, List.getElem_cons_succ, List.setIfInBounds_toArray, List.set_cons_zero, List.set_cons_succ]
  refine wpAnyT_take (i := 5) (v := ?v5) rfl (by kernel_rfl) (by kernel_rfl) (by kernel_rfl) (by kernel_rfl) (fun _ _ _ h => h) rfl (fun w' hS => ?y5) hS0 ?z5
  case y5 => (obtain ⟨s0, s1, s2, s3, s4, s5, s6, s7⟩ := hS; go_simp; with_reducible rfl)
  try simp only [Act.put, List.getElem_toArray, List.getElem_cons_zero, List.getElem_cons_succ, List.setIfInBounds_toArray, List.set_cons_zero, List.set_cons_succ]
  refine wpAnyT_take (i := 6) (v := ?v6) rfl (by kernel_rfl) (by kernel_rfl) (by kernel_rfl) (by kernel_rfl) (fun _ _ _ h => h) rfl (fun w' hS => ?y6) hS0 ?z6
  case y6 => (obtain ⟨s0, s1, s2, s3, s4, s5, s6, s7⟩ := hS; go_simp; with_reducible rfl)
  try simp only [Act.put, List.getElem_toArray, List.getElem_cons_zero, List.getElem_cons_succ, List.setIfInBounds_toArray, List.set_cons_zero, List.set_cons_succ]
  refine wpAnyT_take (i := 7) (v := ?v7) rfl (by kernel_rfl) (by kernel_rfl) (by kernel_rfl) (by kernel_rfl) (fun _ _ _ h => h) rfl (fun w' hS => ?y7) hS0 ?z7
  case y7 => (obtain ⟨s0, s1, s2, s3, s4, s5, s6, s7⟩ := hS; go_simp; with_reducible rfl)
  try simp only [Act.put, List.getElem_toArray, List.getElem_cons_zero, List.getElem_cons_succ, List.setIfInBounds_toArray, List.set_cons_zero, List.set_cons_succ]
  refine wpAnyT_take (i := 9) (v := ?v9) rfl (by kernel_rfl) (by kernel_rfl) (by kernel_rfl) (by kernel_rfl) (fun _ _ _ h => h) rfl (fun w' hS => ?y9) hS0 ?z9
  case y9 => (obtain ⟨s0, s1, s2, s3, s4, s5, s6, s7⟩ := hS; go_simp; with_reducible rfl)
  try simp only [Act.put, List.getElem_toArray, List.getElem_cons_zero, List.getElem_cons_succ, List.setIfInBounds_toArray, List.set_cons_zero, List.set_cons_succ]
  refine wpAnyT_take (i := 10) (v := ?v10) rfl (by kernel_rfl) (by kernel_rfl) (by kernel_rfl) (by kernel_rfl) (fun _ _ _ h => h) rfl (fun w' hS => ?y10) hS0 ?z10
  case y10 => (obtain ⟨s0, s1, s2, s3, s4, s5, s6, s7⟩ := hS; go_simp; with_reducible rfl)
  try simp only [Act.put, List.getElem_toArray, List.getElem_cons_zero, List.getElem_cons_succ, List.setIfInBounds_toArray, List.set_cons_zero, List.set_cons_succ]
  refine wpAnyT_one (i := 8) (by kernel_rfl) rfl (fun K' hK => ?_)
  have HK9 := Lib.hid hK
  clear hK
  go_simp
  go_at_call 86
  refine (HCL.out _ (below_step HB6.out HB6.out.size (below_step HB7.out HB7.out.size bd))).mono ?_
  rintro e w8 ⟨B8, c8, rfl, hown8, hb8⟩
  have hb8' := below_step bd (Nat.le_refl _) hb8
  have hS8 := HK8.out _ hb8'
  have HOWN8 := Lib.hid hown8
  have HB8 := Lib.hid hb8'
  clear hown8 hb8 hb8'
  refine HK9.out _ _ (.inr hS8) ?_
  clear HK9
  try simp only [Act.put, List.getElem_toArray, List.getElem_cons_zero, List.getElem_cons_succ, List.setIfInBounds_toArray, List.set_cons_zero, List.set_cons_succ]
  refine wpAnyT_one (i := 11) (by kernel_rfl) rfl (fun K' hK => ?_)
  have HK9 := Lib.hid hK
  clear hK
  go_simp
  go_at_call 87
  refine (HOZ.out _).mono ?_
  rintro e w9 ⟨rfl, hb9⟩
  have hb9' := below_step HB8.out HB8.out.size hb9
  have hS9 := HK8.out _ hb9'
  have HB9 := Lib.hid hb9
  have HB79 := Lib.hid hb9'
  have hr9 := HR7.out.below hb9'
  have d5 := hr9.cell (j := 5) rfl
  have d6 := hr9.cell (j := 6) rfl
  have d7 := hr9.cell (j := 7) rfl
  have d8 := hr9.cell (j := 8) rfl
  have d9 := hr9.cell (j := 9) rfl
  have d10 := hr9.cell (j := 10) rfl
  have d11 := hr9.cell (j := 11) rfl
  have d12 := hr9.cell (j := 12) rfl
  have d13 := hr9.cell (j := 13) rfl
  have df := hr9.frozen
  have HR9 := Lib.hid hr9
  clear hr9 hb9 hb9'
  refine HK9.out _ _ (.inr hS9) ?_
  clear HK9
  try simp only [Act.put, List.getElem_toArray, List.getElem_cons_zero, List.getElem_cons_succ, List.setIfInBounds_toArray, List.set_cons_zero, List.set_cons_succ]
  refine wpAnyT_one (i := 12) (by kernel_rfl) rfl (fun K' hK => ?_)
  have HK9 := Lib.hid hK
  clear hK
  go_simp
  refine HK9.out _ _ (.inr hS9) ?_
  clear HK9
  try simp only [Act.put, List.getElem_toArray, List.getElem_cons_zero, List.getElem_cons_succ, List.setIfInBounds_toArray, List.set_cons_zero, List.set_cons_succ]
  refine wpAnyT_one (i := 13) (by kernel_rfl) rfl (fun K' hK => ?_)
  have HK9 := Lib.hid hK
  clear hK
  go_simp
  refine HK9.out _ _ (.inr hS9) ?_
  clear HK9
  try simp only [Act.put, List.getElem_toArray, List.getElem_cons_zero, List.getElem_cons_succ, List.setIfInBounds_toArray, List.set_cons_zero, List.set_cons_succ]
  refine wpAnyT_one (i := 14) (by kernel_rfl) rfl (fun K' hK => ?_)
  have HK9 := Lib.hid hK
  clear hK
  go_simp
  refine HK9.out _ _ (.inr hS9) ?_
  clear HK9
  try simp only [Act.put, List.getElem_toArray, List.getElem_cons_zero, List.getElem_cons_succ, List.setIfInBounds_toArray, List.set_cons_zero, List.set_cons_succ]
  refine wpAnyT_one (i := 15) (by kernel_rfl) rfl (fun K' hK => ?_)
  have HK9 := Lib.hid hK
  clear hK
  go_simp
  refine HK9.out _ _ (.inl rfl) ?_
  clear HK9
  try simp only [Act.put, List.getElem_toArray, List.getElem_cons_zero, List.getElem_cons_succ, List.setIfInBounds_toArray, List.set_cons_zero, List.set_cons_succ]
  refine wpAnyT_done (by kernel_rfl) ?_ _
  clear hS0 hS8 hS9 bd
  obtain ⟨wx, hwx⟩ : ∃ wx, (((((((((w9.setCell ⟨r, 5, none⟩ (.int .i64 b)).setCell ⟨r, 6, none⟩ (.int .i64 t)).setCell ⟨r, 7, none⟩ (.slice A5 n5 c5)).setCell ⟨r, 8, none⟩ (.int .i64 b)).setCell ⟨r, 9, none⟩ (.slice B8 m c8)).setCell ⟨r, 10, none⟩ (.int .i64 0)).setCell ⟨r, 11, none⟩ (.int .i64 0)).setCell ⟨r, 12, none⟩ (.slice none 0 0)).setCell ⟨r, 13, none⟩ (.slice none 0 0)) = wx := ⟨_, rfl⟩
  have hrx : RAt wx r [.map none, .map none, .int .i64 0, .int .i64 0, .pointer none, .int .i64 b, .int .i64 t, .slice A5 n5 c5, .int .i64 b, .slice B8 m c8, .int .i64 0, .int .i64 0, .slice none 0 0, .slice none 0 0,
      .int .i64 o, .int .i64 l, .int .i64 c, .int .i64 id, .int .i64 term, .int .i64 (-1), .int .i64 0, .int .i64 (-1), .pointer (some ⟨tg, 0, none⟩), .slice none 0 0, .int .i64 0, .int .i64 0, .slice none 0 0, .slice none 0 0,
      .int .i64 0, .int .i64 0, .slice none 0 0, .slice none 0 0, .slice none 0 0, .slice none 0 0, .int .i64 0] := by
    rw [← hwx]
    exact ((((((((HR9.out.set 5 _).set 6 _).set 7 _).set 8 _).set 9 _).set 10 _).set 11 _).set 12 _).set 13 _
  have hO : Outside (· = r) w9 wx := by
    rw [← hwx]
    exact ((((((((((Outside.refl (· = r) w9).set ⟨r, 5, none⟩ _ (.inr rfl)).set ⟨r, 6, none⟩ _ (.inr rfl)).set ⟨r, 7, none⟩ _ (.inr rfl)).set ⟨r, 8, none⟩ _ (.inr rfl)).set ⟨r, 9, none⟩ _ (.inr rfl)).set ⟨r, 10, none⟩ _ (.inr rfl)).set ⟨r, 11, none⟩ _ (.inr rfl)).set ⟨r, 12, none⟩ _ (.inr rfl)).set ⟨r, 13, none⟩ _ (.inr rfl))
  try rw [hwx]
  have HRX := Lib.hid hrx
  have HOX := Lib.hid hO
  have HIDX : Hid (wx.cell? ⟨gb + 1, 0, none⟩ = some (.int .i64 id)) := Lib.hid (by
    rw [← hwx, store9 _ _ _ _ HNE.out]; exact HID.out _ HB79.out)
  clear hwx hrx hO d5 d6 d7 d8 d9 d10 d11 d12 d13 df
  have k0 := HIDX.out
  have kr := HRX.out.cell (j := 4) rfl
  go_wp2_with (first
    | (go_at_call 88; refine (HBN.out _).mono ?_; rintro e wb ⟨bk, rfl, hbz, hbk, hbb⟩; have HRB := Lib.hid (HRX.out.below hbb); have kb := HRB.out.cell (j := 4) rfl; have kf := HRB.out.frozen; have HBB := Lib.hid hbb; clear hbb hbz hbk)
    | fail)
  go_ret2
  obtain ⟨wz, hwz⟩ : ∃ wz, wb.setCell ⟨r, 4, none⟩ (.pointer (some ⟨bk, 0, none⟩)) = wz := ⟨_, rfl⟩
  have hrz : RAt wz r (newVs o l c id term b t bk (.slice A5 n5 c5) B8 m c8 tg) := by rw [← hwz]; exact HRB.out.set 4 _
  rw [hwz]
  have hz79 := HB79.out.size
  have hrr := HR.out
  have hz67 := HB7.out.size
  have hlt7 := HR7.out.lt
  have b69 : Below w6.heap.size w6 w9 := below_step HB7.out HB7.out.size HB79.out
  have b6x : Below w6.heap.size w6 wx := b69.trans (HOX.out.below (fun b hb => by rw [hb, ← hrr]; exact Nat.le_refl _) b69.size)
  have b6b : Below w6.heap.size w6 wb := below_step b6x b6x.size HBB.out
  have b6z : Below w6.heap.size w6 wz := by rw [← hwz]; exact b6b.setCell (p := ⟨r, 4, none⟩) (by show w6.heap.size ≤ r; omega) _
  have o9 := own_keep HOWN8.out HB9.out
  have ox := own_out o9 HOX.out (show r < w7.drew.heap.size from hlt7)
  have ob := own_keep ox HBB.out
  have oz : wz.ownsRow w7.drew.heap.size 3 1 (.slice B8 m c8) m (is.map i64v) := by
    rw [← hwz]
    exact own_out ob ((Outside.refl (· = r) wb).set ⟨r, 4, none⟩ _ (.inr rfl)) (show r < w7.drew.heap.size from hlt7)
  have hw46 : w.heap.size ≤ w4.heap.size := by have := HB4.out.size; have := HB.out.size; omega
  have hsz6 := HB6.out.size
  exact ⟨r, bk, tg, A5, n5, c5, B8, c8, rfl, by omega, HTG9.out, hrz, OwnsE.lower (HOW6.out.below b6z) hw46, own_lower oz (by show w.heap.size ≤ w7.heap.size; omega), (b6z.block tg (Array.getElem?_eq_some_iff.1 HTM6.out).1).trans HTM6.out, below_step HB6.out HB6.out.size b6z⟩
end Go.Proofs.YtoongmoajnedlaaGreat
