/-
  ProgressMeets: the walk.
-/
import Derived.Test.YtlcnpfiiijehmaaMeetQ
import Derived.Test.YtlcnpfiiijehmaaSends
import Derived.Test.YtlcnpfiiijehmaaForward
set_option linter.unusedVariables false
set_option linter.unusedSimpArgs false
namespace Go.Proofs.Ytlcnpfiiijehmaa
open Go.RowKit

theorem recs_ones {base : Nat} {W : World} {es : List Ent} {cells : List Value} (h : Recs (EntO base) 4 W es cells) : ∀ u ∈ cells, u.oneCell' = true := by
  obtain ⟨css, rfl, hl, _, hR⟩ := h.all
  intro u hu
  obtain ⟨cs, hcs, huc⟩ := List.mem_flatten.1 hu
  obtain ⟨j, hj, rfl⟩ := List.getElem_of_mem hcs
  obtain ⟨A, c, e, _⟩ := hR j (es[j]'(by omega)) css[j] (List.getElem?_eq_getElem _) (List.getElem?_eq_getElem _)
  rw [e] at huc
  exact cells_ones _ _ _ _ u huc
theorem OwnsE.app {base n m c c2 : Nat} {A A2 : Option Addr} {es es' : List Ent} {cells news : List Value} {W W2 : World} (h1 : W.ownsRow base 54 4 (.slice A n c) n cells) (h2 : Recs (EntO base) 4 W es cells) (h3 : Recs (EntO base) 4 W es' news)
    (h4 : W2.ownsRow base 54 4 (.slice A2 (n + m) c2) (n + m) (cells ++ news)) (hg : W.grownBy W2 (Value.slice A n c).ownBlock) : OwnsE base (.slice A2 (n + m) c2) (n + m) (es ++ es') W2 := by
  have hk : ∀ (y : Ent) (cs : List Value), EntO base W y cs → EntO base W2 y cs := fun y cs hl => by
    obtain ⟨A', c', e, ho⟩ := hl
    exact ⟨A', c', e, own_apart ho h1 (by decide) hg⟩
  exact ⟨_, h4, (h2.imp fun j y cs _ hl => hk y cs hl).append (h3.imp fun j y cs _ hl => hk y cs hl)⟩
theorem OwnsQE.far2 {base n B : Nat} {v : Value} {es : List Ent} {W : World} {x y : Int} (h : OwnsQE base v n es W) (hB : PeerAt W B x y) (a b : Value) : OwnsQE base v n es ((W.setCell ⟨B, 0, none⟩ a).setCell ⟨B, 1, none⟩ b) := by
  have h1 := h.far ⟨B, 0, none⟩ a rfl hB (by decide) (by decide)
  have e1 : (W.setCell ⟨B, 0, none⟩ a).heap[B]? = some (.cells #[a, .int .i64 y] 38 (0, 0)) := by
    unfold PeerAt at hB
    simp [World.setCell, Array.getElem?_modify, hB]
  exact h1.far ⟨B, 1, none⟩ b rfl e1 (by decide) (by decide)
theorem view_far3 {W : World} {g B : Nat} {v : Vw} {d : Value} (h : ViewAt W g v d) (hne : g ≠ B) (a b c : Value) : ViewAt (((W.setCell ⟨B, 0, none⟩ a).setCell ⟨B, 1, none⟩ b).setCell ⟨B, 2, none⟩ c) g v d :=
  (Below.heap_setCell _ _ _ _ hne).trans ((Below.heap_setCell _ _ _ _ hne).trans ((Below.heap_setCell _ _ _ _ hne).trans h))
theorem peer_far3 {W : World} {g B : Nat} {x y : Int} (h : PeerAt W g x y) (hne : g ≠ B) (a b c : Value) : PeerAt (((W.setCell ⟨B, 0, none⟩ a).setCell ⟨B, 1, none⟩ b).setCell ⟨B, 2, none⟩ c) g x y :=
  (Below.heap_setCell _ _ _ _ hne).trans ((Below.heap_setCell _ _ _ _ hne).trans ((Below.heap_setCell _ _ _ _ hne).trans h))
theorem fit_far3 {W : World} {g B : Nat} {yes : Bool} {p t : Int} {d : Value} (h : FitAt W g yes p t d) (hne : g ≠ B) (a b c : Value) : FitAt (((W.setCell ⟨B, 0, none⟩ a).setCell ⟨B, 1, none⟩ b).setCell ⟨B, 2, none⟩ c) g yes p t d :=
  (Below.heap_setCell _ _ _ _ hne).trans ((Below.heap_setCell _ _ _ _ hne).trans ((Below.heap_setCell _ _ _ _ hne).trans h))
theorem view_far2 {W : World} {g B : Nat} {v : Vw} {d : Value} (h : ViewAt W g v d) (hne : g ≠ B) (a b : Value) : ViewAt ((W.setCell ⟨B, 0, none⟩ a).setCell ⟨B, 1, none⟩ b) g v d :=
  (Below.heap_setCell _ _ _ _ hne).trans ((Below.heap_setCell _ _ _ _ hne).trans h)
/-- What stands between two turns. -/
def MtI (w : World) (g10 g11 g13 : Nat) (A3 : Option Addr) (nm c3 : Nat) (Ld : List Ent) (turn : Nat) (a b : Int) (A2 : Option Addr) (q2 c2 : Nat) (fl : List Ent) (wr : World) : Prop :=
  MeetI Ld nm fl a b turn ∧ ViewAt wr g10 ⟨0, 0, []⟩ (.slice A3 nm c3) ∧ ViewAt wr g11 ⟨0, 0, []⟩ (.slice A2 q2 c2) ∧ PeerAt wr g13 a b ∧ OwnsQE w.heap.size (.slice A3 nm c3) nm Ld wr ∧ OwnsQE w.heap.size (.slice A2 q2 c2) q2 fl wr ∧ Below w.heap.size w wr
set_option maxRecDepth 16384 in
set_option maxHeartbeats 16000000 in
theorem meets_any (S T : Option Addr) (ns cs nt ct : Nat) (steps terms : List Int) (x1 x2 : Int) (w : World) (hns : steps.length = ns) (hns2 : ns ≤ 140737488351232) (hS : Sees w S (steps.map i64v)) (hnt : terms.length = nt) (hnt2 : nt ≤ 140737488351232) (hT : Sees w T (terms.map i64v)) (hx1 : IntOk x1) (hx2 : IntOk x2) :
    Calls Try.prog 7 #[.slice S ns cs, .int .i64 x1, .int .i64 x2, .slice T nt ct] w (RetBool w true) := by
  obtain ⟨nm, hnm⟩ : ∃ nm, ns % 40 = nm := ⟨_, rfl⟩
  have hnm9 : nm ≤ 39 := by omega
  have hnmt : ((ns : Int)).tmod 40 = (nm : Int) := by rw [Int.tmod_eq_emod_of_nonneg (by omega)]; omega
  obtain ⟨s1, hs1⟩ : ∃ s1, x1.tmod ((nm : Int) + 1) = s1 := ⟨_, rfl⟩
  have hs1a : s1 < (nm : Int) + 1 := by rw [← hs1]; exact Int.tmod_lt_of_pos _ (by omega)
  have hs1b : -((nm : Int) + 1) < s1 := by rw [← hs1]; exact Int.lt_tmod_of_pos _ (by omega)
  obtain ⟨sm, hsm⟩ : ∃ sm : Nat, (s1 + (nm : Int) + 1).tmod ((nm : Int) + 1) = (sm : Int) := by
    have h9 : 0 ≤ (s1 + (nm : Int) + 1).tmod ((nm : Int) + 1) := by rw [Int.tmod_eq_emod_of_nonneg (by omega)]; exact Int.emod_nonneg _ (by omega)
    exact ⟨((s1 + (nm : Int) + 1).tmod ((nm : Int) + 1)).toNat, by omega⟩
  have hsmn : sm ≤ nm := by
    have h9 : (s1 + (nm : Int) + 1).tmod ((nm : Int) + 1) < (nm : Int) + 1 := Int.tmod_lt_of_pos _ (by omega)
    omega
  have ha1 := Int.tmod_lt_of_pos x2 (show (0 : Int) < 20 by decide)
  have ha2 : -20 < x2.tmod 20 := Int.lt_tmod_of_pos x2 (show (0 : Int) < 20 by decide)
  obtain ⟨s2, hs2⟩ : ∃ s2, x2.tmod 20 = s2 := ⟨_, rfl⟩
  rw [hs2] at ha1 ha2
  obtain ⟨om, hom⟩ : ∃ om : Nat, (s2 + 20).tmod 20 = (om : Int) := ⟨((s2 + 20).tmod 20).toNat, by rw [Int.tmod_eq_emod_of_nonneg (by omega)]; omega⟩
  have hom9 : om ≤ 19 := by
    rw [Int.tmod_eq_emod_of_nonneg (by omega)] at hom
    omega
  have HLO := Lib.hid (leader_ok (ss := steps) (n := nm) (by omega))
  have HFO := Lib.hid (follow_ok (ss := steps) (ts := terms) hsmn hnm9 hom9)
  have HR0 := Lib.hid (fun W' (hb' : Below w.heap.size w W') (k : Nat) (hk : k ≤ 99) => show Calls Try.prog 20 #[.int .i64 0, .int .i64 2, .slice S ns cs, .int .i64 (k : Int)] W' (RetRows 0 2 steps k W') from rows_any 0 2 S steps ns cs k W' (by omega) (by omega) hns (by omega) (hS.below hb') hk)
  have hlt : termN 2 steps sm ≤ 999 := by
    unfold termN
    have h := sum_steps_le (steps.take sm)
    have h2 : (steps.take sm).length ≤ sm := List.length_take_le _ _
    omega
  obtain ⟨tl, htl⟩ : ∃ tl, termN 2 steps sm = tl := ⟨_, rfl⟩
  rw [htl] at HFO hlt
  have HTL := Lib.hid htl
  have HR1 := Lib.hid (fun W' (hb' : Below w.heap.size w W') => rows_any sm (tl + 1) T terms nt ct om W' (by omega) (by omega) hnt (by omega) (hT.below hb') (by omega))
  obtain ⟨Ld, hLd⟩ : ∃ Ld, rowsN 0 2 steps nm = Ld := ⟨_, rfl⟩
  obtain ⟨F1, hF1⟩ : ∃ F1, rowsN 0 2 steps sm = F1 := ⟨_, rfl⟩
  obtain ⟨F2, hF2⟩ : ∃ F2, rowsN sm (tl + 1) terms om = F2 := ⟨_, rfl⟩
  rw [hLd] at HLO
  rw [hLd, hF1, hF2] at HFO
  have HLD := Lib.hid hLd
  have HF1 := Lib.hid hF1
  have HF2 := Lib.hid hF2
  have e1 : IntKind.i64.wrap ((nm : Int) + 1) = (nm : Int) + 1 := IntWalk.i64_in _ (by omega)
  have e2 : IntKind.i64.wrap (s1 + (nm : Int)) = s1 + (nm : Int) := IntWalk.i64_in _ (by omega)
  have e3 : IntKind.i64.wrap (s1 + (nm : Int) + 1) = s1 + (nm : Int) + 1 := IntWalk.i64_in _ (by omega)
  have e4 : IntKind.i64.wrap (s2 + 20) = s2 + 20 := IntWalk.i64_in _ (by omega)
  have e5 : IntKind.i64.wrap ((tl : Int) + 1) = (tl : Int) + 1 := IntWalk.i64_in _ (by omega)
  have e6 : ((nm : Int) + 1 == 0) = false := by simp; omega
  have HNM := Lib.hid hnm
  have HOM := Lib.hid hom
  have HS2 := Lib.hid hs2
  have HE4 := Lib.hid e4
  have HE5 := Lib.hid e5
  clear hnm hS hT hns hnt htl hLd hF1 hF2 ha1 ha2 hom hs2 e4 e5 hx1 hx2
  go_enter Try.func7, Try.ntmps7
  go_upto_region 3 with (first
    | (go_at_call 20; refine (HR0.out _ (Below.refl _ _) nm (by omega)).mono ?_; rintro e w2 ⟨A2, c2, rfl, ho2, hb2⟩; rw [HLD.out] at ho2; have HO2 := Lib.hid ho2; have HB2 := Lib.hid hb2; clear ho2 hb2)
    | (go_at_call 8; refine (view_any ⟨0, 0, Ld⟩ A2 nm c2 w2 HLO.out.len (by omega) HO2.out.see.1 HLO.out.data).mono ?_; rintro e w3 ⟨A3, n3, c3, rfl, hn3, ho3, hb3⟩; obtain rfl : nm = n3 := (hn3.trans HLO.out.len).symm; have HO3 := Lib.hid ho3; have HB23 := Lib.hid hb3; have HB3 := Lib.hid (below_step HB2.out HB2.out.size hb3); unfold Vw.val; clear ho3 hb3 hn3)
    | fail)
  obtain ⟨w4, hw4⟩ : ∃ w4, w3.alloc (.cells #[.int .i64 0, .int .i64 0, .slice A3 nm c3] 26) = w4 := ⟨_, rfl⟩
  have hb4 : Below w3.heap.size w3 w4 := by rw [← hw4]; exact (Below.refl _ _).alloc (Nat.le_refl _) _
  have hv4 : ViewAt w4 w3.heap.size ⟨0, 0, []⟩ (.slice A3 nm c3) := by rw [← hw4]; exact heap_alloc_new _ _
  rw [hw4]
  obtain ⟨g10, hg10⟩ : ∃ g, w3.heap.size = g := ⟨_, rfl⟩
  rw [hg10] at hv4
  try rw [hg10]
  have HV4 := Lib.hid hv4
  have HL4 := Lib.hid ((HO3.out.lower HB2.out.size).below hb4).q
  have HB4 := Lib.hid (below_step HB3.out HB3.out.size hb4)
  clear hw4 hb4 hv4 hg10
  go_upto_region 5 with (first
    | (go_at_call 20; refine (HR0.out _ HB4.out sm (by omega)).mono ?_; rintro e w5 ⟨A5, c5, rfl, ho5, hb5⟩; rw [HF1.out] at ho5; have HO5 := Lib.hid ho5; have HB45 := Lib.hid hb5; have HB5 := Lib.hid (below_step HB4.out HB4.out.size hb5); clear ho5 hb5)
    | (go_at_call 8; refine (view_any ⟨0, 0, F1⟩ A5 sm c5 w5 (by rw [← HF1.out, rowsN_length]) (by omega) HO5.out.see.1 (by rw [← HF1.out]; exact rowsN_small)).mono ?_; rintro e w6 ⟨A6, n6, c6, rfl, hn6, ho6, hb6⟩; obtain rfl : sm = n6 := (hn6.trans (by rw [← HF1.out, rowsN_length])).symm; have HO6 := Lib.hid ho6; have HFB : Hid (∀ b, (Value.slice A6 sm c6).ownBlock = some b → w4.heap.size ≤ b) := Lib.hid (fun b hb => by obtain ⟨cells, h1, _⟩ := ho6; exact Nat.le_trans HB45.out.size (own_block_ge h1 b hb).1); have HB46 := Lib.hid (below_step HB45.out HB45.out.size hb6); have HB6 := Lib.hid (below_step HB5.out HB5.out.size hb6); unfold Vw.val; clear ho6 hb6 hn6)
    | fail)
  clear e1 e2 e3 e6 hsm hs1 hs1a hs1b
  obtain ⟨w7, hw7⟩ : ∃ w7, w6.alloc (.cells #[.int .i64 0, .int .i64 0, .slice A6 sm c6] 26) = w7 := ⟨_, rfl⟩
  have hb7 : Below w6.heap.size w6 w7 := by rw [← hw7]; exact (Below.refl _ _).alloc (Nat.le_refl _) _
  have hv7 : ViewAt w7 w6.heap.size ⟨0, 0, []⟩ (.slice A6 sm c6) := by rw [← hw7]; exact heap_alloc_new _ _
  rw [hw7]
  obtain ⟨g11, hg11⟩ : ∃ g, w6.heap.size = g := ⟨_, rfl⟩
  rw [hg11] at hv7
  try rw [hg11]
  have hb47 := below_step HB46.out HB46.out.size hb7
  have HV7 := Lib.hid hv7
  have HV107 := Lib.hid (HV4.out.below hb47)
  have HL7 := Lib.hid (HL4.out.below hb47)
  have HF7 := Lib.hid ((HO6.out.lower HB5.out.size).below hb7)
  have HB7 := Lib.hid (below_step HB6.out HB6.out.size hb7)
  have HB47 := Lib.hid hb47
  have HG := Lib.hid (show w4.heap.size ≤ g11 by rw [← hg11]; exact HB46.out.size)
  clear hw7 hb7 hv7 hg11 hb47
  go_upto_if 41 with (fail)
  go_cut [12] from 41 to 48 (fun s12 wx => s12 = .int .i64 (tl : Int) ∧ w7 = wx)
  case first =>
    cases sm with
    | zero =>
      have htl : (2 : Int) = (tl : Int) := by
        have h9 := HTL.out
        simp [termN] at h9
        omega
      go_wp2_with fail
      go_meet
      case rel => exact ⟨by rw [htl], rfl⟩
    | succ k =>
      have hk1 : (0 : Int) < ((k + 1 : Nat) : Int) := by omega
      have hk2 : IntKind.i64.wrap (((k + 1 : Nat) : Int) - 1) = (k : Int) := by rw [IntWalk.i64_in _ (by omega)]; omega
      have hk3 : (k : Int) < ((k + 1 : Nat) : Int) := by omega
      have hget : F1[k]? = some (entC tl (0 + 1 + k)) := by
        rw [← HF1.out]
        unfold rowsN
        rw [List.getElem?_map, List.getElem?_range (by omega)]
        show some (entC (termN 2 steps (k + 1)) _) = _
        rw [HTL.out]
      obtain ⟨ad, A1, c1, rfl, hcs, _, _⟩ := HF7.out.see.1.at hget
      have z0 : w7.cell? (ad.add (k * 4)) = some (.int .i64 (tl : Int)) := by
        have h9 := hcs 0 _ rfl
        rwa [add_zero'] at h9
      obtain ⟨i0, i1, i2⟩ := HV7.out.cells
      clear hcs hget
      go_wp2_with fail
      go_meet
      case rel => exact ⟨rfl, rfl⟩
  case rest =>
    obtain ⟨rfl, rfl⟩ := hcut
    go_upto_region 8 with fail
    have bd : Below w7.heap.size w7 w7.drew := (Below.refl _ _).drew
    have hS0 : w7.drew.cell? ⟨g11, 2, none⟩ = some (.slice A6 sm c6) := HV7.out.cells.2.2
    have e4 := HE4.out
    have e5 := HE5.out
    have hs2 := HS2.out
    have hom := HOM.out
    refine wp_region_T 13 (fun W' => W'.cell? ⟨g11, 2, none⟩ = some (.slice A6 sm c6)) (by kernel_rfl) ?_
    refine wpAnyT_take (i := 0) (v := ?v0) rfl (by kernel_rfl) (by kernel_rfl) (by kernel_rfl) (by kernel_rfl) (fun _ _ _ h => h) rfl (fun w' hS => ?y0) hS0 ?z0
    case y0 => (have s0 := hS; go_simp; with_reducible rfl)
    try simp only [Act.put, List.getElem_toArray, List.getElem_cons_zero, List.getElem_cons_succ, List.setIfInBounds_toArray, List.set_cons_zero, List.set_cons_succ]
    refine wpAnyT_take (i := 1) (v := ?v1) rfl (by kernel_rfl) (by kernel_rfl) (by kernel_rfl) (by kernel_rfl) (fun _ _ _ h => h) rfl (fun w' hS => ?y1) hS0 ?z1
    case y1 => (have s0 := hS; go_simp; with_reducible rfl)
    try simp only [Act.put, List.getElem_toArray, List.getElem_cons_zero, List.getElem_cons_succ, List.setIfInBounds_toArray, List.set_cons_zero, List.set_cons_succ]
    refine wpAnyT_take (i := 2) (v := ?v2) rfl (by kernel_rfl) (by kernel_rfl) (by kernel_rfl) (by kernel_rfl) (fun _ _ _ h => h) rfl (fun w' hS => ?y2) hS0 ?z2
    case y2 => (have s0 := hS; go_simp; with_reducible rfl)
    try simp only [Act.put, List.getElem_toArray, List.getElem_cons_zero, List.getElem_cons_succ, List.setIfInBounds_toArray, List.set_cons_zero, List.set_cons_succ]
    refine wpAnyT_take (i := 3) (v := ?v3) rfl (by kernel_rfl) (by kernel_rfl) (by kernel_rfl) (by kernel_rfl) (fun _ _ _ h => h) rfl (fun w' hS => ?y3) hS0 ?z3
    case y3 => (have s0 := hS; go_simp; with_reducible rfl)
    try simp only [Act.put, List.getElem_toArray, List.getElem_cons_zero, List.getElem_cons_succ, List.setIfInBounds_toArray, List.set_cons_zero, List.set_cons_succ]
    refine wpAnyT_take (i := 4) (v := ?v4) rfl (by kernel_rfl) (by kernel_rfl) (by kernel_rfl) (by kernel_rfl) (fun _ _ _ h => h) rfl (fun w' hS => ?y4) hS0 ?z4
    case y4 => (have s0 := hS; go_simp; with_reducible rfl)
    try simp only [Act.put, List.getElem_toArray, List.getElem_cons_zero, List.getElem_cons_succ, List.setIfInBounds_toArray, List.set_cons_zero, List.set_cons_succ]
    refine wpAnyT_take (i := 5) (v := ?v5) rfl (by kernel_rfl) (by kernel_rfl) (by kernel_rfl) (by kernel_rfl) (fun _ _ _ h => h) rfl (fun w' hS => ?y5) hS0 ?z5
    case y5 => (have s0 := hS; go_simp; with_reducible rfl)
    try simp only [Act.put, List.getElem_toArray, List.getElem_cons_zero, List.getElem_cons_succ, List.setIfInBounds_toArray, List.set_cons_zero, List.set_cons_succ]
    refine wpAnyT_take (i := 6) (v := ?v6) rfl (by kernel_rfl) (by kernel_rfl) (by kernel_rfl) (by kernel_rfl) (fun _ _ _ h => h) rfl (fun w' hS => ?y6) hS0 ?z6
    case y6 => (have s0 := hS; go_simp; with_reducible rfl)
    try simp only [Act.put, List.getElem_toArray, List.getElem_cons_zero, List.getElem_cons_succ, List.setIfInBounds_toArray, List.set_cons_zero, List.set_cons_succ]
    refine wpAnyT_take (i := 7) (v := ?v7) rfl (by kernel_rfl) (by kernel_rfl) (by kernel_rfl) (by kernel_rfl) (fun _ _ _ h => h) rfl (fun w' hS => ?y7) hS0 ?z7
    case y7 => (have s0 := hS; go_simp; with_reducible rfl)
    try simp only [Act.put, List.getElem_toArray, List.getElem_cons_zero, List.getElem_cons_succ, List.setIfInBounds_toArray, List.set_cons_zero, List.set_cons_succ]
    refine wpAnyT_take (i := 8) (v := ?v8) rfl (by kernel_rfl) (by kernel_rfl) (by kernel_rfl) (by kernel_rfl) (fun _ _ _ h => h) rfl (fun w' hS => ?y8) hS0 ?z8
    case y8 => (have s0 := hS; go_simp; with_reducible rfl)
    try simp only [Act.put, List.getElem_toArray, List.getElem_cons_zero, List.getElem_cons_succ, List.setIfInBounds_toArray, List.set_cons_zero, List.set_cons_succ]
    refine wpAnyT_take (i := 9) (v := ?v9) rfl (by kernel_rfl) (by kernel_rfl) (by kernel_rfl) (by kernel_rfl) (fun _ _ _ h => h) rfl (fun w' hS => ?y9) hS0 ?z9
    case y9 => (have s0 := hS; go_simp; with_reducible rfl)
    try simp only [Act.put, List.getElem_toArray, List.getElem_cons_zero, List.getElem_cons_succ, List.setIfInBounds_toArray, List.set_cons_zero, List.set_cons_succ]
    refine wpAnyT_one (i := 10) (by kernel_rfl) rfl (fun K' hK => ?_)
    have HK9 := Lib.hid hK
    clear hK
    go_simp
    go_at_call 20
    refine (HR1.out _ (below_step HB7.out HB7.out.size bd)).mono ?_
    rintro e w8 ⟨A8, c8, rfl, ho8, hb8⟩
    rw [HF2.out] at ho8
    have hb8' := below_step bd bd.size hb8
    have hv8 := HV7.out.below hb8'
    have hS8 := hv8.cells.2.2
    have f8 := HF7.out.below hb8'
    have HV8 := Lib.hid hv8
    obtain ⟨cells8, o81, o82⟩ := f8
    obtain ⟨news, p81, p82⟩ := ho8.lower (show w.heap.size ≤ w7.heap.size from HB7.out.size)
    have HO81 := Lib.hid o81
    have HO82 := Lib.hid o82
    have HP81 := Lib.hid p81
    have HP82 := Lib.hid p82
    have HB8 := Lib.hid hb8'
    clear o81 o82 p81 p82 hv8 ho8 hb8 hb8'
    refine HK9.out _ _ (.inr hS8) ?_
    clear HK9
    try simp only [Act.put, List.getElem_toArray, List.getElem_cons_zero, List.getElem_cons_succ, List.setIfInBounds_toArray, List.set_cons_zero, List.set_cons_succ]
    refine wpAnyT_one (i := 11) (by kernel_rfl) rfl (fun K' hK => ?_)
    have HK9 := Lib.hid hK
    clear hK
    refine step_append_sees rfl (.tmp 50) (.tmp 59) 22 (by rfl) w.heap.size 54 (.agg zeros4) 4 48 Try.underlying22 infoE rfl (by decide) (.slice A6 sm c6) sm cells8 (by rfl) HO81.out A8 om c8 news (by rfl) HP81.out.1 (by exact (sees_own' HP81.out).2.2.2) (recs_ones HP82.out) (by simp only [maxLen]; omega) (by omega) (by have := HB7.out.size; have := HB8.out.size; omega) ?_
    intro A9 c9 w9 hown9 hg9 hat9
    have hv9 : ViewAt w9 g11 ⟨0, 0, []⟩ (.slice A6 sm c6) := (hg9.block g11 (Array.getElem?_eq_some_iff.1 HV8.out).1 (fun e => (own_far HO81.out HV8.out (by decide)) e.symm)).trans HV8.out
    have hS9 := hv9.cells.2.2
    have ff9 := frozen_of_cells hv9
    have HF9 := Lib.hid (OwnsE.app HO81.out HO82.out HP82.out hown9 hg9)
    have HV9 := Lib.hid hv9
    have HG9 := Lib.hid hg9
    clear hown9 hg9 hat9 hv9
    refine HK9.out _ _ (.inr hS9) ?_
    clear HK9
    try simp only [Act.put, List.getElem_toArray, List.getElem_cons_zero, List.getElem_cons_succ, List.setIfInBounds_toArray, List.set_cons_zero, List.set_cons_succ]
    refine wpAnyT_one (i := 12) (by kernel_rfl) rfl (fun K' hK => ?_)
    have HK9 := Lib.hid hK
    clear hK
    go_simp
    refine HK9.out _ _ (.inr hS9) ?_
    clear HK9
    try simp only [Act.put, List.getElem_toArray, List.getElem_cons_zero, List.getElem_cons_succ, List.setIfInBounds_toArray, List.set_cons_zero, List.set_cons_succ]
    refine wpAnyT_one (i := 13) (by kernel_rfl) rfl (fun K' hK => ?_)
    have HK9 := Lib.hid hK
    clear hK
    go_simp
    refine HK9.out _ _ (.inl rfl) ?_
    clear HK9
    try simp only [Act.put, List.getElem_toArray, List.getElem_cons_zero, List.getElem_cons_succ, List.setIfInBounds_toArray, List.set_cons_zero, List.set_cons_succ]
    refine wpAnyT_done (by kernel_rfl) ?_ _
    obtain ⟨w10, hw10⟩ : ∃ w10, w9.setCell ⟨g11, 2, none⟩ (.slice A9 (sm + om) c9) = w10 := ⟨_, rfl⟩
    have hv10 := view_set2 (d' := .slice A9 (sm + om) c9) HV9.out
    have hf10 := HF9.out.q.far ⟨g11, 2, none⟩ (.slice A9 (sm + om) c9) rfl HV9.out (by decide) (by decide)
    have hb10 : Below w4.heap.size w4 (w9.setCell ⟨g11, 2, none⟩ (.slice A9 (sm + om) c9)) := by
      have h1 : Below w4.heap.size w4 w8 := below_step HB47.out HB47.out.size HB8.out
      exact (h1.grown HG9.out h1.size (fun b hb => HFB.out b hb)).setCell (p := ⟨g11, 2, none⟩) HG.out _
    rw [hw10] at hv10 hf10 hb10
    rw [hw10]
    have HV10 := Lib.hid hv10
    have HF10 := Lib.hid hf10
    have HB10 := Lib.hid hb10
    clear hw10 hv10 hf10 hb10 hS8 hS9 ff9 hS0 bd e4 e5 hs2 hom
    go_upto_region 10 with (first
      | (go_at_call 15; refine (begin_any nm w10 (by omega)).mono ?_; rintro e w11 ⟨rfl, hb11⟩; have HB11 := Lib.hid hb11; clear hb11)
      | fail)
    obtain ⟨w12, hw12⟩ : ∃ w12, w11.alloc (.cells #[.int .i64 ((nm : Int) + 1), .int .i64 0] 38) = w12 := ⟨_, rfl⟩
    have hb12 : Below w11.heap.size w11 w12 := by rw [← hw12]; exact (Below.refl _ _).alloc (Nat.le_refl _) _
    have hp12 : PeerAt w12 w11.heap.size ((nm : Int) + 1) 0 := by rw [← hw12]; exact heap_alloc_new _ _
    rw [hw12]
    obtain ⟨g13, hg13⟩ : ∃ g, w11.heap.size = g := ⟨_, rfl⟩
    rw [hg13] at hp12
    try rw [hg13]
    have hb1012 := below_step HB11.out HB11.out.size hb12
    have hb412 := below_step HB10.out HB10.out.size hb1012
    have REL : Hid (∃ (turn : Nat) (a b : Int) (A2 : Option Addr) (q2 c2 : Nat) (fl : List Ent), Value.int .i64 0 = .int .i64 (turn : Int) ∧ MtI w g10 g11 g13 A3 nm c3 Ld turn a b A2 q2 c2 fl w12) := Lib.hid ⟨0, (nm : Int) + 1, 0, A9, sm + om, c9, F1 ++ F2, rfl, HFO.out, HV4.out.below hb412, HV10.out.below hb1012, hp12, HL4.out.below hb412, HF10.out.below hb1012, below_step HB4.out HB4.out.size hb412⟩
    have HGW0 := Lib.hid (show w.heap.size ≤ g13 by rw [← hg13]; exact Nat.le_trans (below_step HB4.out HB4.out.size HB10.out).size HB11.out.size)
    have HGW1 := Lib.hid (show w.heap.size ≤ g11 from Nat.le_trans HB4.out.size HG.out)
    have HN3 := Lib.hid (show g10 ≠ g11 from fun e => by have h1 := (Array.getElem?_eq_some_iff.1 HV4.out).1; have := HG.out; omega)
    clear hw12 hb12 hp12 hg13 hb1012 hb412 HFO HV10 HF10 HB10 HB11 HV9 HF9 HG9 HB8 HP81 HP82 HO81 HO82 HV8 HB47 HFB HG HF7 HL7 HV107 HV7 HB7 HO6 HB46 HB6 HO5 HB45 HB5 HV4 HL4 HO3 HB23 HB3 HO2 HB2 HE4 HE5 HS2 HOM HTL HF1 HF2 HR0 HR1
    go_wp2_with fail
    go_loopw [14] (fun s14 wr => ∃ (turn : Nat) (a b : Int) (A2 : Option Addr) (q2 c2 : Nat) (fl : List Ent), s14 = .int .i64 (turn : Int) ∧ MtI w g10 g11 g13 A3 nm c3 Ld turn a b A2 q2 c2 fl wr) (fun s14 _ => 2 * nm + 1 - (intOf s14).toNat)
    case atStart => exact REL.out
    case round =>
      obtain ⟨turn, a, b, A2, q2, c2, fl, rfl, hmt, hv10, hv11, hp13, hl, hf, hb⟩ := hrel
      have HMT := Lib.hid hmt
      have HV10 := Lib.hid hv10
      have HV11 := Lib.hid hv11
      have HP13 := Lib.hid hp13
      have HL := Lib.hid hl
      have HF := Lib.hid hf
      have HBW := Lib.hid hb
      have hq2 : q2 ≤ 200 := by
        obtain ⟨_, _, _, h9, _⟩ := hmt
        have := hf.see.2.1
        omega
      have hturn : turn ≤ 2 * nm := by
        obtain ⟨m, _, _, _, _, _, h1, h2, h3, h4, h5⟩ := hmt
        omega
      obtain ⟨i0, i1, i2⟩ := hv10.cells
      obtain ⟨j0, j1, j2⟩ := hv11.cells
      obtain ⟨p0, p1⟩ := hp13.cells
      have e1 : IntKind.i64.wrap ((nm : Int) + (q2 : Int)) = (nm : Int) + (q2 : Int) := IntWalk.i64_in _ (by omega)
      have e2 : IntKind.i64.wrap (2 * ((nm : Int) + (q2 : Int))) = 2 * ((nm : Int) + (q2 : Int)) := IntWalk.i64_in _ (by omega)
      have e3 : IntKind.i64.wrap (2 * ((nm : Int) + (q2 : Int)) + 4) = 2 * ((nm : Int) + (q2 : Int)) + 4 := IntWalk.i64_in _ (by omega)
      have e4 : (turn : Int) < 2 * ((nm : Int) + (q2 : Int)) + 4 := by omega
      clear REL hmt hv10 hv11 hp13 hl hf hb
      by_cases hbn : b = (nm : Int)
      · have HDN := Lib.hid (HMT.out.done HLO.out hbn)
        subst hbn
        go_upto_region 19 with fail
        obtain ⟨hnq, htk⟩ := HDN.out
        have hfs := HF.out.see
        rw [hfs.2.1] at hnq
        have hcq : nm ≤ c2 := Nat.le_trans hnq hfs.2.2
        have hgq : ¬ (q2 : Int) < (nm : Int) := by omega
        have hsee : SeenE wr A2 Ld := by
          have h9 := (HF.out.cut hnq).see.1
          rwa [htk] at h9
        have HSEE := Lib.hid hsee
        have HKR : Hid (∀ W', Below wr.heap.size wr W' → W'.cell? ⟨g13, 1, none⟩ = some (.int .i64 (nm : Int)) ∧ W'.cell? ⟨g11, 2, none⟩ = some (.slice A2 q2 c2) ∧ W'.cell? ⟨g10, 2, none⟩ = some (.slice A3 nm c3)) := Lib.hid (fun W' hb' => ⟨(show PeerAt W' g13 a (nm : Int) from blockB HP13.out hb').cells.2, (HV11.out.below hb').cells.2.2, (HV10.out.below hb').cells.2.2⟩)
        have bd : Below wr.heap.size wr wr.drew := (Below.refl _ _).drew
        clear i0 i1 i2 j0 j1 j2 p0 p1 e1 e2 e3 e4 hsee htk hfs
        go_region_held3 (fun W' => W'.cell? ⟨g13, 1, none⟩ = some (.int .i64 (nm : Int)) ∧ W'.cell? ⟨g11, 2, none⟩ = some (.slice A2 q2 c2) ∧ W'.cell? ⟨g10, 2, none⟩ = some (.slice A3 nm c3))
          (first
            | (refine HKR.out _ ?_; assumption)
            | fail)
          (first
            | (go_at_call 23; refine (own12_any A3 Ld nm c3 wr.drew HLO.out.len (by omega) (HL.out.below bd).see.1 HLO.out.data).mono ?_; rintro e w20 ⟨A20, n20, c20, rfl, hn20, ho20, hb20⟩; obtain rfl : nm = n20 := (hn20.trans HLO.out.len).symm; have hb20' := below_step bd bd.size hb20; have HS20 := Lib.hid ho20.see.1; clear hn20 ho20)
            | (go_at_call 19; refine (entries_same_any A2 A20 Ld nm c2 c20 w20 HLO.out.len (by omega) (HSEE.out.below hb20') HS20.out).mono ?_; rintro e w21 ⟨rfl, hb21⟩; have hb21' := below_step hb20' hb20'.size hb21)
            | fail)
        all_goals
          go_wp2_with (first
            | (go_at_call 12; refine (knows_any w21).mono ?_; rintro e w22 ⟨rfl, hb22⟩; have HB22 := Lib.hid (below_step hb21' hb21'.size hb22); clear hb22)
            | fail)
          go_ret
          exact ⟨rfl, below_step HBW.out HBW.out.size HB22.out⟩
      · have hbn' : (b == (nm : Int)) = false := by simpa using hbn
        obtain ⟨p, yes, at_, cut, add, ha, hpn, hfit, hat, hno, hyes⟩ := meet_step HLO.out HMT.out hbn
        have hpre := batch_pre HLO.out hpn
        have hbat := batch_meet HLO.out hpn
        obtain ⟨tv, htv⟩ : ∃ tv, atV ⟨0, 0, Ld⟩ (p : Int) = tv := ⟨_, rfl⟩
        obtain ⟨lp, hlp⟩ : ∃ lp, (Ld.drop p).take 8 = lp := ⟨_, rfl⟩
        rw [htv, hlp] at hpre hbat hfit
        obtain ⟨b0, bm, am⟩ : 0 ≤ b ∧ b ≤ (nm : Int) ∧ a ≤ (nm : Int) + 1 := by
          obtain ⟨m, h0, _, _, _, _, h1, h2, h3, h4, h5⟩ := HMT.out
          omega
        have HHD0 := Lib.hid (fun (y : Bool) W' => heard_any a b y (at_ : Int) (nm : Int) W' b0 (by omega) (by omega) (by omega) (by omega) (by omega) ⟨by omega, by omega⟩)
        have hflr : rightV ⟨0, 0, fl⟩ = true ∧ SmallE fl := by
          obtain ⟨m, _, _, _, h1, h2, _⟩ := HMT.out
          exact ⟨h1, h2⟩
        have HBA := Lib.hid (fun W' (hb' : Below wr.heap.size wr W') => batch_any ⟨0, 0, Ld⟩ a A3 nm c3 W' ⟨by omega, by omega⟩ HLO.out.len (by omega) (HL.out.below hb').see.1 HLO.out.data)
        have HTR := Lib.hid (fun W' (A4 : Option Addr) (n4 c4 : Nat) (hb' : Below wr.heap.size wr W') (hl4 : lp.length = n4) (hs4 : SeenE W' A4 lp) => try_any ⟨0, 0, fl⟩ (p : Int) tv lp A2 A4 q2 c2 n4 c4 W' HF.out.see.2.1 hflr.1 (HF.out.below hb').see.1 hflr.2 (by omega) (by omega) hpre.1 hl4 (by have := hpre.2.2.1; omega) hpre.2.1 hs4 hpre.2.2.2)
        unfold RetBatch at HBA
        unfold RetTry at HTR
        rw [hfit] at HTR
        have ha' := ha
        rw [ha] at HBA
        rw [hbat] at HBA
        rw [← ha] at HBA
        have HDO := Lib.hid (fun (hy : yes = true) W' (A5 : Option Addr) (n5 c5 : Nat) (hb' : Below wr.heap.size wr W') (hl5 : add.length = n5) (hs5 : SeenE W' A5 add) => do_any ⟨0, 0, fl⟩ true (at_ : Int) cut add A2 A5 q2 c2 n5 c5 W' HF.out.see.2.1 hflr.1 (HF.out.below hb').see.1 hflr.2 (hyes hy).1 hl5 (by have := (hyes hy).2.1; omega) hs5 (hyes hy).2.2.1 (hyes hy).2.2.2.1)
        have HYES := Lib.hid (fun (hy : yes = true) => (hyes hy).2.2.2.2)
        have HNO := Lib.hid hno
        unfold Vw.val at HBA HTR HDO
        dsimp only at HBA HTR HDO
        have HN1 : Hid (g10 ≠ g13) := Lib.hid (fun e => by
          have h1 := HV10.out
          have h2 := HP13.out
          unfold ViewAt at h1
          unfold PeerAt at h2
          rw [e, h2] at h1
          simp at h1)
        have HN2 : Hid (g11 ≠ g13) := Lib.hid (fun e => by
          have h1 := HV11.out
          have h2 := HP13.out
          unfold ViewAt at h1
          unfold PeerAt at h2
          rw [e, h2] at h1
          simp at h1)
        have HGL10 := Lib.hid (Array.getElem?_eq_some_iff.1 HV10.out).1
        have HGL11 := Lib.hid (Array.getElem?_eq_some_iff.1 HV11.out).1
        have HGL13 := Lib.hid (Array.getElem?_eq_some_iff.1 HP13.out).1
        have HPL := Lib.hid hpre.2.2.1
        clear ha ha' hpn hfit hno hyes hpre hbat htv hlp hflr hbn
        go_upto_region 15 with (first
          | (go_at_call 17; refine (HBA.out wr (Below.refl _ _)).mono ?_; rintro e w2 ⟨A4, n4, c4, rfl, ho4, hb4⟩; have HB4 := Lib.hid hb4; have HO4 := Lib.hid ho4; clear ho4 hb4)
          | fail)
        obtain ⟨w3, hw3⟩ : ∃ w3, w2.alloc (.cells #[.bool false, .int .i64 (p : Int), .int .i64 tv, .slice A4 n4 c4] 45) = w3 := ⟨_, rfl⟩
        have hb3 : Below w2.heap.size w2 w3 := by rw [← hw3]; exact (Below.refl _ _).alloc (Nat.le_refl _) _
        have hs3 : SendAt w3 w2.heap.size false (p : Int) tv (.slice A4 n4 c4) := by rw [← hw3]; exact heap_alloc_new _ _
        rw [hw3]
        obtain ⟨gs, hgs⟩ : ∃ g, w2.heap.size = g := ⟨_, rfl⟩
        rw [hgs] at hs3
        try rw [hgs]
        have hbr3 := below_step HB4.out HB4.out.size hb3
        have HB3 := Lib.hid hbr3
        have HL4 := Lib.hid HO4.out.see.2.1
        have HS4 := Lib.hid (HO4.out.below hb3).see.1
        obtain ⟨s0, s1, s2, s3⟩ := hs3.cells
        obtain ⟨k0, k1, k2⟩ := (HV11.out.below hbr3).cells
        clear hw3 hb3 hs3 hgs hbr3 i0 i1 i2 j0 j1 j2 p0 p1 e1 e2 e3 e4
        go_upto_region 16 with (first
          | (go_at_call 21; refine (HTR.out w3 A4 n4 c4 HB3.out HL4.out HS4.out).mono ?_; rintro e w5 ⟨A5, n5, c5, rfl, ho5, hb5⟩; have HB35 := Lib.hid hb5; have HO5 := Lib.hid ho5; clear ho5 hb5)
          | fail)
        obtain ⟨w6, hw6⟩ : ∃ w6, w5.alloc (.cells #[.bool yes, .int .i64 (at_ : Int), .int .i64 cut, .slice A5 n5 c5] 56) = w6 := ⟨_, rfl⟩
        have hb6 : Below w5.heap.size w5 w6 := by rw [← hw6]; exact (Below.refl _ _).alloc (Nat.le_refl _) _
        have hf6 : FitAt w6 w5.heap.size yes (at_ : Int) cut (.slice A5 n5 c5) := by rw [← hw6]; exact heap_alloc_new _ _
        rw [hw6]
        obtain ⟨gf, hgf⟩ : ∃ g, w5.heap.size = g := ⟨_, rfl⟩
        rw [hgf] at hf6
        try rw [hgf]
        have hbr6 := below_step (below_step HB3.out HB3.out.size HB35.out) (Nat.le_trans HB3.out.size HB35.out.size) hb6
        have HB6 := Lib.hid hbr6
        have HL5 := Lib.hid HO5.out.see.2.1
        have HS5 := Lib.hid (HO5.out.below hb6).see.1
        have HF6 := Lib.hid hf6
        have HGF := Lib.hid (show wr.heap.size ≤ gf by rw [← hgf]; exact Nat.le_trans HB3.out.size HB35.out.size)
        have HP6 := Lib.hid (show PeerAt w6 g13 a b from blockB HP13.out hbr6)
        have HV6a := Lib.hid (HV10.out.below hbr6)
        have HV6b := Lib.hid (HV11.out.below hbr6)
        have HL6 := Lib.hid (HL.out.below hbr6)
        have HFF6 := Lib.hid (HF.out.below hbr6)
        have HBX6 := Lib.hid (below_step HBW.out HBW.out.size hbr6)
        obtain ⟨t0, t1, t2, t3⟩ := hf6.cells
        have HGW := Lib.hid (show w.heap.size ≤ g13 from HGW0.out)
        clear hw6 hb6 hf6 hgf hbr6 s0 s1 s2 s3 k0 k1 k2
        cases yes with
        | false =>
          obtain ⟨ha, hha⟩ : ∃ x, (heardP a b false (at_ : Int) (nm : Int)).1 = x := ⟨_, rfl⟩
          obtain ⟨hb', hhb⟩ : ∃ x, (heardP a b false (at_ : Int) (nm : Int)).2 = x := ⟨_, rfl⟩
          have HMN : Hid (MeetI Ld nm fl ha hb' (turn + 1)) := Lib.hid (by rw [← hha, ← hhb]; exact HNO.out rfl)
          have HHD := Lib.hid (fun W' => HHD0.out false W')
          unfold RetPeer at HHD
          rw [hha, hhb] at HHD
          have HBX := HBX6
          have HPX := HP6
          have HLX := HL6
          have HFX := HFF6
          have HVX10 := HV6a
          have HVX11 := HV6b
          obtain ⟨p0, p1⟩ := HP6.out.cells
          clear hha hhb
          go_upto_region 12 with (first
            | (go_at_call 16; refine (HHD.out _).mono ?_; rintro e w8 ⟨rfl, hb8⟩; have HB8 := Lib.hid (below_step HBX.out HBX.out.size hb8); have hp8 := blockB HPX.out hb8; have d0 := (show PeerAt w8 g13 _ b from hp8).cells.1; have d1 := (show PeerAt w8 g13 _ b from hp8).cells.2; have df := frozen_of_cells hp8; have HP8 := Lib.hid hp8; have HL8 := Lib.hid (HLX.out.below hb8); have HF8 := Lib.hid (HFX.out.below hb8); have HV8a := Lib.hid (HVX10.out.below hb8); have HV8b := Lib.hid (HVX11.out.below hb8); clear hb8 hp8)
            | fail)
          have hpn := PeerAt.set (c := ha) (d := hb') HP8.out
          have hln := HL8.out.far2 (B := g13) HP8.out (.int .i64 ha) (.int .i64 hb')
          have hfn := HF8.out.far2 (B := g13) HP8.out (.int .i64 ha) (.int .i64 hb')
          have hvn1 := view_far2 HV8a.out (show g10 ≠ g13 from HN1.out) (.int .i64 ha) (.int .i64 hb')
          have hvn2 := view_far2 HV8b.out (show g11 ≠ g13 from HN2.out) (.int .i64 ha) (.int .i64 hb')
          have hbn2 := below_set (below_set HB8.out ⟨g13, 0, none⟩ HGW.out (.int .i64 ha)) ⟨g13, 1, none⟩ HGW.out (.int .i64 hb')
          obtain ⟨w9, hw9⟩ : ∃ w9, (w8.setCell ⟨g13, 0, none⟩ (.int .i64 ha)).setCell ⟨g13, 1, none⟩ (.int .i64 hb') = w9 := ⟨_, rfl⟩
          rw [hw9] at hpn hln hfn hvn1 hvn2 hbn2
          rw [hw9]
          have HPN := Lib.hid hpn
          have HLN := Lib.hid hln
          have HFN := Lib.hid hfn
          have HVN1 := Lib.hid hvn1
          have HVN2 := Lib.hid hvn2
          have HBN2 := Lib.hid hbn2
          have et : IntKind.i64.wrap ((turn : Int) + 1) = (turn : Int) + 1 := IntWalk.i64_in _ (by omega)
          clear hw9 hpn hln hfn hvn1 hvn2 hbn2 d0 d1 df
          go_wp2_with fail
          go_roundw
          case rel => exact ⟨turn + 1, ha, hb', _, _, _, _, by go_num, HMN.out, HVN1.out, HVN2.out, HPN.out, HLN.out, HFN.out, HBN2.out⟩
          case measure => simp [intOf] <;> omega

        | true =>
          obtain ⟨ha, hha⟩ : ∃ x, (heardP a b true (at_ : Int) (nm : Int)).1 = x := ⟨_, rfl⟩
          obtain ⟨hb', hhb⟩ : ∃ x, (heardP a b true (at_ : Int) (nm : Int)).2 = x := ⟨_, rfl⟩
          obtain ⟨nfl, hnf⟩ : ∃ x, keepL ⟨0, 0, fl⟩ cut ++ add = x := ⟨_, rfl⟩
          have HMN : Hid (MeetI Ld nm nfl ha hb' (turn + 1)) := Lib.hid (by rw [← hha, ← hhb, ← hnf]; exact HYES.out rfl)
          have HHD := Lib.hid (fun W' => HHD0.out true W')
          unfold RetPeer at HHD
          rw [hha, hhb] at HHD
          have HDO6 := Lib.hid (HDO.out rfl w6 A5 n5 c5 HB6.out HL5.out HS5.out)
          unfold RetDo at HDO6
          rw [hnf] at HDO6
          dsimp only at HDO6
          obtain ⟨k0, k1, k2⟩ := HV6b.out.cells
          clear hha hhb hnf
          go_upto_region 18 with (first
            | (go_at_call 22; refine HDO6.out.mono ?_; rintro e w7 ⟨A7, n7, c7, rfl, ho7, hb7⟩; have HB67 := Lib.hid hb7; have HO7 := Lib.hid ho7; have hv7 := HV6b.out.below hb7; obtain ⟨q0, q1, q2'⟩ := hv7.cells; have fv := frozen_of_cells hv7; have HV7 := Lib.hid hv7; clear ho7 hb7 hv7)
            | fail)
          have hvn := view_set3' (v := ⟨0, 0, []⟩) (d := .slice A7 n7 c7) HV7.out
          have hln7 := (HL6.out.below HB67.out).far3 HV7.out (.int .i64 0) (.int .i64 0) (.slice A7 n7 c7)
          have hfn7 := (HO7.out.lower HBX6.out.size).far3 HV7.out (.int .i64 0) (.int .i64 0) (.slice A7 n7 c7)
          have hpn7 := peer_far3 (show PeerAt w7 g13 a b from blockB HP6.out HB67.out) (show g13 ≠ g11 from fun e => HN2.out e.symm) (.int .i64 0) (.int .i64 0) (.slice A7 n7 c7)
          have hvn7 := view_far3 (HV6a.out.below HB67.out) HN3.out (.int .i64 0) (.int .i64 0) (.slice A7 n7 c7)
          have hbn7 := below_set (below_set (below_set (below_step HBX6.out HBX6.out.size HB67.out) ⟨g11, 0, none⟩ HGW1.out (.int .i64 0)) ⟨g11, 1, none⟩ HGW1.out (.int .i64 0)) ⟨g11, 2, none⟩ HGW1.out (.slice A7 n7 c7)
          have hft7 := fit_far3 (HF6.out.keep HB67.out) (show gf ≠ g11 from fun e => by have := HGL11.out; have := HGF.out; omega) (.int .i64 0) (.int .i64 0) (.slice A7 n7 c7)
          obtain ⟨wx, hwx⟩ : ∃ wx, ((w7.setCell ⟨g11, 0, none⟩ (.int .i64 0)).setCell ⟨g11, 1, none⟩ (.int .i64 0)).setCell ⟨g11, 2, none⟩ (.slice A7 n7 c7) = wx := ⟨_, rfl⟩
          rw [show (((w7.setCell ⟨g11, 0, none⟩ (.int .i64 (⟨0, 0, []⟩ : Vw).base)).setCell ⟨g11, 1, none⟩ (.int .i64 (⟨0, 0, []⟩ : Vw).term)).setCell ⟨g11, 2, none⟩ (.slice A7 n7 c7)) = wx from hwx] at hvn
          rw [hwx] at hln7 hfn7 hpn7 hvn7 hbn7 hft7
          rw [hwx]
          have HBX := Lib.hid hbn7
          have HPX := Lib.hid hpn7
          have HLX := Lib.hid hln7
          have HFX := Lib.hid hfn7
          have HVX10 := Lib.hid hvn7
          have HVX11 := Lib.hid hvn
          obtain ⟨p0, p1⟩ := hpn7.cells
          obtain ⟨y0, y1, y2, y3⟩ := hft7.cells
          clear hwx hvn hln7 hfn7 hpn7 hvn7 hbn7 hft7 k0 k1 k2 q0 q1 q2' fv t0 t1 t2 t3
          go_upto_region 12 with (first
            | (go_at_call 16; refine (HHD.out _).mono ?_; rintro e w8 ⟨rfl, hb8⟩; have HB8 := Lib.hid (below_step HBX.out HBX.out.size hb8); have hp8 := blockB HPX.out hb8; have d0 := (show PeerAt w8 g13 _ b from hp8).cells.1; have d1 := (show PeerAt w8 g13 _ b from hp8).cells.2; have df := frozen_of_cells hp8; have HP8 := Lib.hid hp8; have HL8 := Lib.hid (HLX.out.below hb8); have HF8 := Lib.hid (HFX.out.below hb8); have HV8a := Lib.hid (HVX10.out.below hb8); have HV8b := Lib.hid (HVX11.out.below hb8); clear hb8 hp8)
            | fail)
          have hpn := PeerAt.set (c := ha) (d := hb') HP8.out
          have hln := HL8.out.far2 (B := g13) HP8.out (.int .i64 ha) (.int .i64 hb')
          have hfn := HF8.out.far2 (B := g13) HP8.out (.int .i64 ha) (.int .i64 hb')
          have hvn1 := view_far2 HV8a.out (show g10 ≠ g13 from HN1.out) (.int .i64 ha) (.int .i64 hb')
          have hvn2 := view_far2 HV8b.out (show g11 ≠ g13 from HN2.out) (.int .i64 ha) (.int .i64 hb')
          have hbn2 := below_set (below_set HB8.out ⟨g13, 0, none⟩ HGW.out (.int .i64 ha)) ⟨g13, 1, none⟩ HGW.out (.int .i64 hb')
          obtain ⟨w9, hw9⟩ : ∃ w9, (w8.setCell ⟨g13, 0, none⟩ (.int .i64 ha)).setCell ⟨g13, 1, none⟩ (.int .i64 hb') = w9 := ⟨_, rfl⟩
          rw [hw9] at hpn hln hfn hvn1 hvn2 hbn2
          rw [hw9]
          have HPN := Lib.hid hpn
          have HLN := Lib.hid hln
          have HFN := Lib.hid hfn
          have HVN1 := Lib.hid hvn1
          have HVN2 := Lib.hid hvn2
          have HBN2 := Lib.hid hbn2
          have et : IntKind.i64.wrap ((turn : Int) + 1) = (turn : Int) + 1 := IntWalk.i64_in _ (by omega)
          clear hw9 hpn hln hfn hvn1 hvn2 hbn2 d0 d1 df
          go_wp2_with fail
          go_roundw
          case rel => exact ⟨turn + 1, ha, hb', _, _, _, _, by go_num, HMN.out, HVN1.out, HVN2.out, HPN.out, HLN.out, HFN.out, HBN2.out⟩
          case measure => simp [intOf] <;> omega

end Go.Proofs.Ytlcnpfiiijehmaa
