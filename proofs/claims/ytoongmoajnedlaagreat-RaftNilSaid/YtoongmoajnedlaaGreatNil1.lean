/-
  The law RaftNil: no server, and one that nobody made; what may not begin.
-/
import Derived.Test.YtoongmoajnedlaaGreatKnow15
import Derived.Test.YtoongmoajnedlaaGreatRView
import Derived.Test.YtoongmoajnedlaaGreatEOwn2
set_option linter.unusedVariables false
set_option linter.unusedSimpArgs false
namespace Go.Proofs.YtoongmoajnedlaaGreat
open Go.RowKit Go.Maps

/-- What New answers. -/
def NewOr (g : Bool) (p : Value) (er : Int) : Prop := (g = true ∧ (∃ r : Nat, p = .pointer (some ⟨r, 0, none⟩)) ∧ er = 0) ∨ (g = false ∧ p = .pointer none ∧ er = 1)
theorem new_or (o l c : Int) (id term : Int) (B : Option Addr) (is : List Int) (d : Nat) (v : Vw) (A : Option Addr) (n cp : Nat) (draw : Int) (w : World) (hd : is.length ≤ d) (hl : is.length * 8 ≤ 140737488355328) (hB : Sees w B (is.map i64v))
    (hn : v.l.length = n) (hn2 : n * 48 ≤ 140737488351232) (h : SeenE w A v.l) (hs : SmallE v.l) :
    Calls Tryz.prog 34 #[.agg #[.int .i64 o, .int .i64 l, .int .i64 c], .agg (startVs id term B is.length d v (.slice A n cp)).toArray, .int .i64 draw] w (fun e w' => ∃ (p : Value) (er : Int), e = .returned (.tuple #[p, .int .i64 er]) ∧ NewOr (optB o l c && startB id term is v) p er ∧ Below w.heap.size w w') := by
  cases hg : (optB o l c && startB id term is v) with
  | true =>
    obtain ⟨h1, h2⟩ := Bool.and_eq_true_iff.1 hg
    refine (new_good o l c id term B is d v A n cp draw w hd hl hB hn hn2 h hs h1 h2).mono ?_
    rintro e w' ⟨r, bk, tg, A4, n4, c4, B4, d4, rfl, _, _, _, _, _, _, hb⟩
    exact ⟨_, _, rfl, .inl ⟨rfl, ⟨r, rfl⟩, rfl⟩, hb⟩
  | false =>
    refine (new_bad o l c id term B is d v A n cp draw w hd (by omega) hB hn (by omega) h hs hg).mono ?_
    rintro e w' ⟨rfl, hb⟩
    exact ⟨_, _, rfl, .inr ⟨rfl, rfl, rfl⟩, hb⟩
theorem sees_one (W : World) : Sees (W.alloc (.cells #[.int .i64 1] 3)) (some ⟨W.heap.size, 0, none⟩) ([1].map i64v) := sees_new W _ _
theorem sees_oneB {W W' : World} (h : Below (W.alloc (.cells #[.int .i64 1] 3)).heap.size (W.alloc (.cells #[.int .i64 1] 3)) W') : Sees W' (some ⟨W.heap.size, 0, none⟩) ([1].map i64v) := (sees_one W).below h
theorem sees_oneD {W W' : World} (h : Below (W.alloc (.cells #[.int .i64 1] 3)).drew.heap.size (W.alloc (.cells #[.int .i64 1] 3)).drew W') : Sees W' (some ⟨W.heap.size, 0, none⟩) ([1].map i64v) := (show Sees (W.alloc (.cells #[.int .i64 1] 3)).drew _ _ from sees_one W).below h
theorem start5 (v : Vw) : (optB 6 2 3 && startB 1 5 [1] v) = (rightV v && (decide (atV v (lastV v) ≤ 5) && (decide (v.base = 0) && decide (v.term = 0)))) := by
  unfold startB
  rw [show optB 6 2 3 = true by decide, show C.rightB [1] = true by decide]
  simp
theorem start1 (id : Int) : startB id 0 [1] v0 = (decide (0 ≤ id) && decide (id < 16)) := by
  unfold startB
  have e1 : atV v0 (lastV v0) = 0 := by simp [atV, lastV, v0]
  rw [right0, e1]
  have e2 : C.rightB [1] = true := by decide
  rw [e2]
  simp [v0]
/-- Two rounds: no server, one that nobody made. -/
def NilI (B : Nat) (w : World) (s7 s8 : Value) (wr : World) : Prop := ∃ k : Nat, s8 = .int .i64 (k : Int) ∧ k ≤ 2 ∧ (k < 2 → NoRaft s7 wr) ∧ Below B w wr
theorem NilI.ptr {v : Value} {w : World} (h : NoRaft v w) : v = .pointer none ∨ ∃ g, v = .pointer (some ⟨g, 0, none⟩) := by
  rcases h with h | ⟨g, h, _⟩
  · exact .inl h
  · exact .inr ⟨g, h⟩
set_option maxRecDepth 16384 in
set_option maxHeartbeats 8000000 in
theorem raftNil_any (o l c : Int) (v : Vw) (A : Option Addr) (n cp : Nat) (id : Int) (w : World) (hn : v.l.length = n) (hn2 : n * 48 ≤ 140737488351232) (h : SeenE w A v.l) (hs : SmallE v.l) :
    Calls Tryz.prog 5 #[.agg #[.int .i64 o, .int .i64 l, .int .i64 c], v.val (.slice A n cp), .int .i64 id] w (RetBool w true) := by
  obtain ⟨b, t, ents⟩ := v
  unfold Vw.val
  simp only
  obtain ⟨W, hW⟩ : ∃ W, (w.alloc (.cells #[.int .i64 o, .int .i64 l, .int .i64 c] 65)).alloc (.cells #[.int .i64 b, .int .i64 t, .slice A n cp] 66) = W := ⟨_, rfl⟩
  have hb : Below w.heap.size w W := by rw [← hW]; exact ((Below.refl _ _).alloc (Nat.le_refl _) _).alloc (by simp) _
  obtain ⟨gb, hgb⟩ : ∃ gb, w.heap.size = gb := ⟨_, rfl⟩
  have hz : W.heap.size = gb + 2 := by rw [← hW, ← hgb]; simp
  have x1 : W.heap[gb]? = some (.cells #[.int .i64 o, .int .i64 l, .int .i64 c] 65 (0, 0)) := by
    rw [← hW, ← hgb]; exact (Below.heap_alloc _ _ _ (by simp)).trans (heap_alloc_new w _)
  have x2 : W.heap[gb + 1]? = some (.cells #[.int .i64 b, .int .i64 t, .slice A n cp] 66 (0, 0)) := by
    rw [← hW, ← hgb]
    have := heap_alloc_new (w.alloc (.cells #[.int .i64 o, .int .i64 l, .int .i64 c] 65)) (.cells #[.int .i64 b, .int .i64 t, .slice A n cp] 66)
    rw [World.size_alloc] at this
    exact this
  have HK : Hid (∀ W', Below W.heap.size W W' → W'.heap[gb]? = some (.cells #[.int .i64 o, .int .i64 l, .int .i64 c] 65 (0, 0)) ∧ W'.heap[gb + 1]? = some (.cells #[.int .i64 b, .int .i64 t, .slice A n cp] 66 (0, 0))) := Lib.hid (fun W' hb' => ⟨(hb'.block gb (Array.getElem?_eq_some_iff.1 x1).1).trans x1, (hb'.block (gb + 1) (Array.getElem?_eq_some_iff.1 x2).1).trans x2⟩)
  have HB := Lib.hid hb
  have HW := Lib.hid hW
  have HGB := Lib.hid hgb
  have H := Lib.hid h
  have HS := Lib.hid hs
  have HN := Lib.hid hn
  have HN2 := Lib.hid hn2
  have HNUM := Lib.hid num15_any
  have HSTEP := Lib.hid step_none
  unfold zeroMsg at HSTEP
  have HCOMP := Lib.hid compact_none
  unfold zeroSnap at HCOMP
  have HOUT := Lib.hid out_none
  unfold zeroWork at HOUT
  have HVIEW := Lib.hid view_none
  unfold zeroView at HVIEW
  have HI : Hid (NilI W.heap.size W (.pointer none) (.int .i64 0) W) := Lib.hid ⟨0, rfl, by decide, fun _ => .inl rfl, Below.refl _ _⟩
  clear hb hW hgb x1 x2 h hs hn hn2 hz
  go_enter Tryz.func5, Tryz.ntmps5
  go_upto_region 1 with fail
  rw [HW.out]
  try rw [HGB.out]
  go_wp2_with fail
  go_loopw [7, 8] (fun s7 s8 wr => NilI W.heap.size W s7 s8 wr) (fun _ s8 _ => 2 - (intOf s8).toNat)
  case atStart => exact HI.out
  case round =>
    obtain ⟨k, rfl, hk, hno, hbk⟩ := hrel
    have HBK := Lib.hid hbk
    rcases Nat.lt_or_ge k 2 with h5 | h5
    · have hki : (k : Int) < 2 := by omega
      have hnr := hno h5
      have HNR := Lib.hid hnr
      clear hno hbk hnr
      go_upto_region 8 with (first
        | (go_at_call 14; refine (propose_none _ _ HNR.out _).mono ?_; rintro e w2 ⟨rfl, hb2⟩; have HNR2 := Lib.hid (HNR.out.below hb2); have HB2 := Lib.hid (below_step HBK.out HBK.out.size hb2); clear hb2)
        | (go_at_call 16; refine (change_none _ _ HNR2.out _ _).mono ?_; rintro e w3 ⟨rfl, hb3⟩; have HNR3 := Lib.hid (HNR2.out.below hb3); have HB3 := Lib.hid (below_step HB2.out HB2.out.size hb3); clear hb3)
        | (go_at_call 17; refine (HOUT.out _ _ HNR3.out).mono ?_; rintro e w4 ⟨rfl, hb4⟩; have HNR4 := Lib.hid (HNR3.out.below hb4); have HB4 := Lib.hid (below_step HB3.out HB3.out.size hb4); clear hb4)
        | fail)
      obtain ⟨bw, hbw⟩ : ∃ bw, w4.heap.size = bw := ⟨_, rfl⟩
      obtain ⟨w5, hw5⟩ : ∃ w5, (w4.alloc (.cells #[.int .i64 0, .int .i64 0, .slice none 0 0, .slice none 0 0, .slice none 0 0, .slice none 0 0, .int .i64 0] 44)) = w5 := ⟨_, rfl⟩
      rw [hw5]
      try rw [hbw]
      have hx5 : w5.heap[bw]? = some (.cells #[.int .i64 0, .int .i64 0, .slice none 0 0, .slice none 0 0, .slice none 0 0, .slice none 0 0, .int .i64 0] 44 (0, 0)) := by
        have h9 := heap_alloc_new w4 (.cells #[.int .i64 0, .int .i64 0, .slice none 0 0, .slice none 0 0, .slice none 0 0, .slice none 0 0, .int .i64 0] 44)
        rw [hbw] at h9
        rw [← hw5]
        exact h9
      have hb5 : Below w4.heap.size w4 w5 := by
        rw [← hw5]
        exact (Below.refl _ _).alloc (Nat.le_refl _) _
      have HNR5 := Lib.hid (HNR4.out.below hb5)
      have HBW5 := Lib.hid (below_step HB4.out HB4.out.size hb5)
      have HB5 := Lib.hid (Below.refl w5.heap.size w5)
      have HWK : Hid (∀ W', Below w5.heap.size w5 W' → W'.heap[bw]? = some (.cells #[.int .i64 0, .int .i64 0, .slice none 0 0, .slice none 0 0, .slice none 0 0, .slice none 0 0, .int .i64 0] 44 (0, 0))) := Lib.hid (fun W' hb' => (hb'.block bw (Array.getElem?_eq_some_iff.1 hx5).1).trans hx5)
      clear hw5 hx5 hb5 hbw
      have hfd : ∀ w : World, (Instr.field 48 (.agg #[.int .i64 0, .int .i64 0, .slice none 0 0]) 2).run Tryz.prog w = .ok (.slice none 0 0) w := fun w => by kernel_rfl
      go_wp2_with (first
        | (go_at_call 24; refine (HNUM.out _ _).mono ?_; rintro e wn ⟨rfl, rfl⟩)
        | (go_at_call 13; refine (tick_none _ _ HNR5.out _).mono ?_; rintro e w6 ⟨rfl, hb6⟩; have HNR6 := Lib.hid (HNR5.out.below hb6); have HB6 := Lib.hid (below_step HB5.out HB5.out.size hb6); clear hb6)
        | (go_at_call 11; refine (HSTEP.out _ _ HNR6.out _).mono ?_; rintro e w7 ⟨rfl, hb7⟩; have HNR7 := Lib.hid (HNR6.out.below hb7); have HB7 := Lib.hid (below_step HB6.out HB6.out.size hb7); clear hb7)
        | (go_at_call 15; refine (read_none _ _ HNR7.out _).mono ?_; rintro e w8 ⟨rfl, hb8⟩; have HNR8 := Lib.hid (HNR7.out.below hb8); have HB8 := Lib.hid (below_step HB7.out HB7.out.size hb8); clear hb8)
        | (go_at_call 28; refine (HCOMP.out _ _ HNR8.out).mono ?_; rintro e w9 ⟨rfl, hb9⟩; have HNR9 := Lib.hid (HNR8.out.below hb9); have HB9 := Lib.hid (below_step HB8.out HB8.out.size hb9); have hx9 := HWK.out _ HB9.out; have d0 := cell_of_row w9 bw 0 _ _ _ hx9; have d1 := cell_of_row w9 bw 1 _ _ _ hx9; have d2 := cell_of_row w9 bw 2 _ _ _ hx9; have d3 := cell_of_row w9 bw 3 _ _ _ hx9; have d6 := cell_of_row w9 bw 6 _ _ _ hx9; simp at d0 d1 d2 d3 d6; clear hx9; clear hb9)
        | (go_at_call 29; refine (id_none _ _ HNR9.out).mono ?_; rintro e w10 ⟨rfl, hb10⟩; have HNR10 := Lib.hid (HNR9.out.below hb10); have HB10 := Lib.hid (below_step HB9.out HB9.out.size hb10); clear hb10)
        | (go_at_call 23; refine (term_none _ _ HNR10.out).mono ?_; rintro e w11 ⟨rfl, hb11⟩; have HNR11 := Lib.hid (HNR10.out.below hb11); have HB11 := Lib.hid (below_step HB10.out HB10.out.size hb11); clear hb11)
        | (go_at_call 27; refine (role_none _ _ HNR11.out).mono ?_; rintro e w12 ⟨rfl, hb12⟩; have HNR12 := Lib.hid (HNR11.out.below hb12); have HB12 := Lib.hid (below_step HB11.out HB11.out.size hb12); clear hb12)
        | (go_at_call 30; refine (leader_none _ _ HNR12.out).mono ?_; rintro e w13 ⟨rfl, hb13⟩; have HNR13 := Lib.hid (HNR12.out.below hb13); have HB13 := Lib.hid (below_step HB12.out HB12.out.size hb13); clear hb13)
        | (go_at_call 31; refine (commit_none _ _ HNR13.out).mono ?_; rintro e w14 ⟨rfl, hb14⟩; have HNR14 := Lib.hid (HNR13.out.below hb14); have HB14 := Lib.hid (below_step HB13.out HB13.out.size hb14); clear hb14)
        | (go_at_call 32; refine (servers_none _ _ HNR14.out).mono ?_; rintro e w15 ⟨rfl, hb15⟩; have HNR15 := Lib.hid (HNR14.out.below hb15); have HB15 := Lib.hid (below_step HB14.out HB14.out.size hb15); clear hb15)
        | (go_at_call 33; refine (rfserversAt_none _ _ HNR15.out _).mono ?_; rintro e w16 ⟨rfl, hb16⟩; have HNR16 := Lib.hid (HNR15.out.below hb16); have HB16 := Lib.hid (below_step HB15.out HB15.out.size hb16); clear hb16)
        | (go_at_call 19; refine (HVIEW.out _ _ HNR16.out).mono ?_; rintro e w17 ⟨rfl, hb17⟩; have HNR17 := Lib.hid (HNR16.out.below hb17); have HB17 := Lib.hid (below_step HB16.out HB16.out.size hb17); clear hb17)
        | fail)
      go_roundw
      case rel => exact ⟨k + 1, by go_num, by omega, fun _ => .inr ⟨w17.heap.size, rfl, by simp⟩, (below_step HBW5.out HBW5.out.size HB17.out).alloc (Nat.le_trans HBW5.out.size HB17.out.size) _⟩
      case measure => simp [intOf] <;> omega
    · obtain rfl : k = 2 := by omega
      obtain ⟨hx1, hx2⟩ := HK.out _ HBK.out
      have k0 := cell_of_row wr gb 0 _ _ _ hx1
      have k1 := cell_of_row wr gb 1 _ _ _ hx1
      have k2 := cell_of_row wr gb 2 _ _ _ hx1
      simp at k0 k1 k2
      have HN1 := Lib.hid (fun W' (hb' : Below wr.heap.size wr W') => new_or o l c id 0 (some ⟨wr.heap.size, 0, none⟩) [1] 1 v0 none 0 0 0 (wr.alloc (.cells #[.int .i64 1] 3)) (by decide) (by decide) (sees_new wr _ _) rfl (by decide) (SeenE.nil _ _) (by intro x hx; cases hx))
      have HRO := Lib.hid (refopt_any o l c)
      unfold startVs v0 at HN1
      simp only at HN1
      clear hno hbk hx1 hx2
      go_upto_region 14 with (first
        | (go_at_call 34; refine (HN1.out _ (Below.refl _ _)).mono ?_; rintro e w2 ⟨p, er, rfl, hor, hb2⟩; have hb2' := below_step ((Below.refl wr.heap.size wr).alloc (Nat.le_refl _) (.cells #[.int .i64 1] 3)) (by simp) hb2; have HB2 := Lib.hid (below_step HBK.out HBK.out.size hb2'); have HOR := Lib.hid hor; have hx2 := (HK.out _ HB2.out).1; have d0 := cell_of_row w2 gb 0 _ _ _ hx2; have d1 := cell_of_row w2 gb 1 _ _ _ hx2; have d2 := cell_of_row w2 gb 2 _ _ _ hx2; simp at d0 d1 d2; clear hb2 hb2' hor hx2)
        | fail)
      obtain ⟨g1, hg1⟩ : ∃ g1, (optB o l c && startB id 0 [1] ⟨0, 0, []⟩) = g1 := ⟨_, rfl⟩
      rw [hg1] at HOR
      have hg2 : (optB o l c && (decide (0 ≤ id) && decide (id < 16))) = g1 := by rw [← hg1, show startB id 0 [1] ⟨0, 0, []⟩ = _ from start1 id]
      have HG1 := Lib.hid hg2
      clear hg1 hg2 k0 k1 k2
      go_cut [16] from 136 to 145 (fun s16 wc => s16 = .bool g1 ∧ Below W.heap.size W wc)
      case first =>
        obtain ⟨ob, hob⟩ : ∃ ob, optB o l c = ob := ⟨_, rfl⟩
        rw [hob] at HRO HG1
        clear hob
        go_wp2_with (first
          | (go_at_call 35; refine (HRO.out _).mono ?_; rintro e w3 ⟨rfl, hb3⟩; have HB3 := Lib.hid (below_step HB2.out HB2.out.size hb3); clear hb3)
          | fail)
        all_goals go_meet
        all_goals exact ⟨congrArg Value.bool (by rw [← HG1.out]; refine Bool.eq_iff_iff.2 ?_; cases ob <;> simp at * <;> omega), HB3.out⟩
      case rest =>
        obtain ⟨rfl, hbc⟩ := hcut
        have HBC := Lib.hid hbc
        clear hbc d0 d1 d2
        go_upto_region 15 with fail
        go_cut [165] from 146 to 164 (fun s165 wc2 => s165 = .bool false ∧ Below W.heap.size W wc2)
        case first =>
          rcases HOR.out with ⟨rfl, ⟨r, rfl⟩, rfl⟩ | ⟨rfl, rfl, rfl⟩
          all_goals go_wp2_with (first
            | (go_at_call 24; refine (HNUM.out _ _).mono ?_; rintro e wn ⟨rfl, rfl⟩)
            | fail)
          all_goals go_meet
          all_goals exact ⟨rfl, HBC.out⟩
        case rest =>
          obtain ⟨rfl, hbc2⟩ := hcut
          have HBC2 := Lib.hid hbc2
          have HO := Lib.hid options_any
          have HV : Hid (∀ W', Below W.heap.size W W' → Calls Tryz.prog 37 #[.agg #[.int .i64 b, .int .i64 t, .slice A n cp]] W' (fun e w' => ∃ A5 c5, e = .returned (.agg #[.int .i64 b, .int .i64 t, .slice A5 n c5]) ∧ SeenE w' A5 ents ∧ Below W'.heap.size W' w')) := Lib.hid (fun W' hb' => by
            refine (view_any ⟨b, t, ents⟩ A n cp W' HN.out HN2.out (H.out.below (below_step HB.out HB.out.size hb')) HS.out).mono ?_
            rintro e w' ⟨A5, n5, c5, rfl, hn5, how5, hb5⟩
            have hnn : n5 = n := hn5.trans HN.out
            subst hnn
            exact ⟨A5, c5, rfl, how5.see.1, hb5⟩)
          have HNW := Lib.hid (fun (W' : World) (B : Option Addr) (A' : Option Addr) (c' : Nat) (hs1 : Sees W' B ([1].map i64v)) (hse : SeenE W' A' ents) => new_or 6 2 3 1 5 B [1] 1 ⟨b, t, ents⟩ A' n c' 0 W' (by decide) (by decide) hs1 HN.out HN2.out hse HS.out)
          obtain ⟨g2, hg2⟩ : ∃ g2, (optB 6 2 3 && startB 1 5 [1] ⟨b, t, ents⟩) = g2 := ⟨_, rfl⟩
          rw [hg2] at HNW
          have HG2 := Lib.hid hg2
          unfold startVs at HNW
          simp only [List.length_singleton] at HNW
          have HK2 : Hid (∀ W', Below W.heap.size W W' → W'.cell? ⟨gb + 1, 0, none⟩ = some (.int .i64 b) ∧ W'.cell? ⟨gb + 1, 1, none⟩ = some (.int .i64 t) ∧ W'.cell? ⟨gb + 1, 2, none⟩ = some (.slice A n cp)) := Lib.hid (fun W' hb' => by
            obtain ⟨_, hx⟩ := HK.out _ hb'
            exact ⟨by rw [cell_of_row W' (gb + 1) 0 _ _ _ hx]; rfl, by rw [cell_of_row W' (gb + 1) 1 _ _ _ hx]; rfl, by rw [cell_of_row W' (gb + 1) 2 _ _ _ hx]; rfl⟩)
          have bd := HBC2.out.drew
          have ba := (HBC2.out.alloc HBC2.out.size (.cells #[.int .i64 1] 3)).drew
          clear hbc2 hg2 HN1 HRO HOR HG1 HI HSTEP HCOMP HOUT HVIEW
          go_upto_region 17 with fail
          go_region_held3 (fun W' => W'.cell? ⟨gb + 1, 0, none⟩ = some (.int .i64 b) ∧ W'.cell? ⟨gb + 1, 1, none⟩ = some (.int .i64 t) ∧ W'.cell? ⟨gb + 1, 2, none⟩ = some (.slice A n cp))
            (first
              | (exact HK2.out _ (by assumption))
              | fail)
            (first
              | (go_at_call 36; refine (HO.out _).mono ?_; rintro e w4 ⟨rfl, hb4⟩; have hB4 : Below W.heap.size W w4 := (by first | with_reducible exact below_step bd bd.size hb4 | with_reducible exact below_step ba ba.size hb4); have hB4a := hB4.alloc hB4.size (.cells #[.int .i64 1] 3); (try (with_reducible have hsa4 := sees_oneD hb4)))
              | (go_at_call 37; refine (HV.out _ (by assumption)).mono ?_; rintro e w5 ⟨A5, c5, rfl, hse5, hb5⟩; have hB5 : Below W.heap.size W w5 := (by first | with_reducible exact below_step hB4 hB4.size hb5 | with_reducible exact below_step hB4a hB4a.size hb5); have hB5a := hB5.alloc hB5.size (.cells #[.int .i64 1] 3); have hse5a := hse5.below ((Below.refl w5.heap.size w5).alloc (Nat.le_refl _) (.cells #[.int .i64 1] 3)); (try (with_reducible have hsa5 := hsa4.below hb5)); (try (with_reducible have hsb5 := sees_oneB hb5)); have hsc5 := sees_one w5)
              | (go_at_call 34; (first | refine (HNW.out w5 _ _ _ hsa5 hse5).mono ?_ | refine (HNW.out w5 _ _ _ hsb5 hse5).mono ?_ | refine (HNW.out _ _ _ _ hsc5 hse5a).mono ?_); rintro e w6 ⟨p2, er2, rfl, hor2, hb6⟩; have hB6 : Below W.heap.size W w6 := (by first | with_reducible exact below_step hB5 hB5.size hb6 | with_reducible exact below_step hB5a hB5a.size hb6))
              | fail)
          all_goals
            have hk6 := HK2.out _ hB6
            obtain ⟨q0, q1, q2⟩ := hk6
            have HOR2 := Lib.hid hor2
            have HB6 := Lib.hid hB6
            have HLO := Lib.hid (fun W' (hb' : Below W.heap.size W W') => rlastof_any ⟨b, t, ents⟩ A n cp W' HN.out (by have := HN2.out; omega) (H.out.below (below_step HB.out HB.out.size hb')) HS.out)
            have HRR := Lib.hid (fun W' (hb' : Below W.heap.size W W') => rrightv_any ⟨b, t, ents⟩ A n cp W' HN.out (by have := HN2.out; omega) (H.out.below (below_step HB.out HB.out.size hb')) HS.out)
            have hg2 := HG2.out
            have HKN := Lib.hid knows15_any
            rw [start5] at hg2
            unfold RetLast Vw.val at HLO
            unfold Vw.val at HRR
            obtain ⟨r, hr⟩ : ∃ r, rightV ⟨b, t, ents⟩ = r := ⟨_, rfl⟩
            obtain ⟨lv, hlv⟩ : ∃ lv, lastV ⟨b, t, ents⟩ = lv := ⟨_, rfl⟩
            obtain ⟨av, hav⟩ : ∃ av, atV ⟨b, t, ents⟩ lv = av := ⟨_, rfl⟩
            rw [hr, hlv, hav] at HLO hg2
            rw [hr] at HRR
            simp only at HLO HRR hg2
            have HGG := Lib.hid hg2
            clear hr hlv hav hg2 HNW HV HK2 HO hor2 hB6 hb6 bd ba HG2
          all_goals
            have HK6 : Hid (∀ W', Below W.heap.size W W' → W'.cell? ⟨gb + 1, 0, none⟩ = some (.int .i64 b) ∧ W'.cell? ⟨gb + 1, 1, none⟩ = some (.int .i64 t) ∧ W'.cell? ⟨gb + 1, 2, none⟩ = some (.slice A n cp)) := Lib.hid (fun W' hb' => by
              obtain ⟨_, hx⟩ := HK.out _ hb'
              exact ⟨by rw [cell_of_row W' (gb + 1) 0 _ _ _ hx]; rfl, by rw [cell_of_row W' (gb + 1) 1 _ _ _ hx]; rfl, by rw [cell_of_row W' (gb + 1) 2 _ _ _ hx]; rfl⟩)
            clear hb4 hB4 hB4a hse5 hb5 hB5 hB5a hse5a hsc5 HW HK
            cases r with
            | false =>
              obtain rfl : g2 = false := by simpa using HGG.out.symm
              simp only [Bool.false_eq_true, if_false] at HLO
              rcases HOR2.out with ⟨h9, _, _⟩ | ⟨_, rfl, rfl⟩
              · cases h9
              clear HGG HOR2
              go_wp2_with (first
                | (go_at_call 38; refine (HLO.out _ HB6.out).mono ?_; rintro e w7 ⟨rfl, hb7⟩; have HB7 := Lib.hid (below_step HB6.out HB6.out.size hb7); obtain ⟨j0, j1, j2⟩ := HK6.out _ HB7.out; clear hb7)
                | (go_at_call 39; refine (HRR.out _ HB7.out).mono ?_; rintro e w8 ⟨rfl, hb8⟩; have HB8 := Lib.hid (below_step HB7.out HB7.out.size hb8); obtain ⟨i0, i1, i2⟩ := HK6.out _ HB8.out; clear hb8)
                | (go_at_call 24; refine (HNUM.out _ _).mono ?_; rintro e wn ⟨rfl, rfl⟩)
                | (go_at_call 10; refine (HKN.out _).mono ?_; rintro e w9 ⟨rfl, hb9⟩; have HB9 := Lib.hid (below_step HB8.out HB8.out.size hb9); clear hb9)
                | fail)
              go_ret
              exact ⟨rfl, below_step HB.out HB.out.size HB9.out⟩
            | true =>
              simp only [if_true] at HLO
              by_cases hall : av ≤ 5 ∧ b = 0 ∧ t = 0
              · obtain ⟨a1, rfl, rfl⟩ := hall
                obtain rfl : g2 = true := by rw [← HGG.out]; simp [a1]
                rcases HOR2.out with ⟨_, ⟨r9, rfl⟩, rfl⟩ | ⟨h9, _, _⟩
                · clear HGG HOR2
                  go_wp2_with (first
                    | (go_at_call 38; refine (HLO.out _ HB6.out).mono ?_; rintro e w7 ⟨rfl, hb7⟩; have HB7 := Lib.hid (below_step HB6.out HB6.out.size hb7); obtain ⟨j0, j1, j2⟩ := HK6.out _ HB7.out; clear hb7)
                    | (go_at_call 39; refine (HRR.out _ HB7.out).mono ?_; rintro e w8 ⟨rfl, hb8⟩; have HB8 := Lib.hid (below_step HB7.out HB7.out.size hb8); obtain ⟨i0, i1, i2⟩ := HK6.out _ HB8.out; clear hb8)
                    | (go_at_call 24; refine (HNUM.out _ _).mono ?_; rintro e wn ⟨rfl, rfl⟩)
                    | (go_at_call 10; refine (HKN.out _).mono ?_; rintro e w9 ⟨rfl, hb9⟩; have HB9 := Lib.hid (below_step HB8.out HB8.out.size hb9); clear hb9)
                    | fail)
                  go_ret
                  exact ⟨rfl, below_step HB.out HB.out.size HB9.out⟩
                · cases h9
              · obtain rfl : g2 = false := by rw [← HGG.out]; cases h9 : (true && (decide (av ≤ 5) && (decide (b = 0) && decide (t = 0)))); rfl; simp at h9; exact absurd h9 hall
                rcases HOR2.out with ⟨h9, _, _⟩ | ⟨_, rfl, rfl⟩
                · cases h9
                clear HGG HOR2
                by_cases c1 : b = 0
                · by_cases c2 : t = 0
                  · have c3 : ¬ av ≤ 5 := fun h => hall ⟨h, c1, c2⟩
                    have HC3 := Lib.hid (decide_eq_false c3)
                    subst c1
                    subst c2
                    clear hall
                    go_wp2_with (first
                      | (go_at_call 38; refine (HLO.out _ HB6.out).mono ?_; rintro e w7 ⟨rfl, hb7⟩; have HB7 := Lib.hid (below_step HB6.out HB6.out.size hb7); obtain ⟨j0, j1, j2⟩ := HK6.out _ HB7.out; clear hb7)
                      | (go_at_call 39; refine (HRR.out _ HB7.out).mono ?_; rintro e w8 ⟨rfl, hb8⟩; have HB8 := Lib.hid (below_step HB7.out HB7.out.size hb8); obtain ⟨i0, i1, i2⟩ := HK6.out _ HB8.out; clear hb8)
                      | (go_at_call 24; refine (HNUM.out _ _).mono ?_; rintro e wn ⟨rfl, rfl⟩)
                      | (go_at_call 10; refine (HKN.out _).mono ?_; rintro e w9 ⟨rfl, hb9⟩; have HB9 := Lib.hid (below_step HB8.out HB8.out.size hb9); clear hb9)
                      | fail)
                    go_ret
                    exact ⟨by show Ending.returned (Value.bool (!decide (av ≤ 5))) = _; rw [HC3.out]; rfl, below_step HB.out HB.out.size HB9.out⟩
                  · subst c1
                    clear hall
                    go_wp2_with (first
                      | (go_at_call 38; refine (HLO.out _ HB6.out).mono ?_; rintro e w7 ⟨rfl, hb7⟩; have HB7 := Lib.hid (below_step HB6.out HB6.out.size hb7); obtain ⟨j0, j1, j2⟩ := HK6.out _ HB7.out; clear hb7)
                      | (go_at_call 39; refine (HRR.out _ HB7.out).mono ?_; rintro e w8 ⟨rfl, hb8⟩; have HB8 := Lib.hid (below_step HB7.out HB7.out.size hb8); obtain ⟨i0, i1, i2⟩ := HK6.out _ HB8.out; clear hb8)
                      | (go_at_call 24; refine (HNUM.out _ _).mono ?_; rintro e wn ⟨rfl, rfl⟩)
                      | (go_at_call 10; refine (HKN.out _).mono ?_; rintro e w9 ⟨rfl, hb9⟩; have HB9 := Lib.hid (below_step HB8.out HB8.out.size hb9); clear hb9)
                      | fail)
                    go_ret
                    exact ⟨rfl, below_step HB.out HB.out.size HB9.out⟩
                · clear hall
                  go_wp2_with (first
                    | (go_at_call 38; refine (HLO.out _ HB6.out).mono ?_; rintro e w7 ⟨rfl, hb7⟩; have HB7 := Lib.hid (below_step HB6.out HB6.out.size hb7); obtain ⟨j0, j1, j2⟩ := HK6.out _ HB7.out; clear hb7)
                    | (go_at_call 39; refine (HRR.out _ HB7.out).mono ?_; rintro e w8 ⟨rfl, hb8⟩; have HB8 := Lib.hid (below_step HB7.out HB7.out.size hb8); obtain ⟨i0, i1, i2⟩ := HK6.out _ HB8.out; clear hb8)
                    | (go_at_call 24; refine (HNUM.out _ _).mono ?_; rintro e wn ⟨rfl, rfl⟩)
                    | (go_at_call 10; refine (HKN.out _).mono ?_; rintro e w9 ⟨rfl, hb9⟩; have HB9 := Lib.hid (below_step HB8.out HB8.out.size hb9); clear hb9)
                    | fail)
                  go_ret
                  exact ⟨rfl, below_step HB.out HB.out.size HB9.out⟩
end Go.Proofs.YtoongmoajnedlaaGreat
