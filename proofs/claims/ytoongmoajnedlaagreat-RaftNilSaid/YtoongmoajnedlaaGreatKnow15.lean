/-
  The laws of raft: options, one, knows.
-/
import Derived.Test.YtoongmoajnedlaaGreatNewA
import Derived.Test.YtoongmoajnedlaaGreatLoneB
set_option linter.unusedVariables false
set_option linter.unusedSimpArgs false
namespace Go.Proofs.YtoongmoajnedlaaGreat
open Go.RowKit Go.Maps

theorem num15_any (n : Int) (w : World) : Calls Tryz.prog 24 #[.int .i64 n] w (fun e w' => e = .returned (.int .i64 n) ∧ w = w') := by
  go_enter Tryz.func24, Tryz.ntmps24
  go_wp2
  go_ret
  exact ⟨rfl, rfl⟩
theorem options_any (w : World) : Calls Tryz.prog 36 #[] w (RetV (.agg #[.int .i64 6, .int .i64 2, .int .i64 3]) w) := by
  obtain ⟨W, hW⟩ : ∃ W, w.alloc (.cells #[.int .i64 0, .int .i64 0, .int .i64 0] 78) = W := ⟨_, rfl⟩
  have hb : Below w.heap.size w W := by rw [← hW]; exact (Below.refl _ _).alloc (Nat.le_refl _) _
  have x1 : W.heap[w.heap.size]? = some (.cells #[.int .i64 0, .int .i64 0, .int .i64 0] 78 (0, 0)) := by
    rw [← hW]; exact heap_alloc_new w _
  have k0 := cell_of_row W w.heap.size 0 _ _ _ x1
  have k1 := cell_of_row W w.heap.size 1 _ _ _ x1
  have k2 := cell_of_row W w.heap.size 2 _ _ _ x1
  have kf := frozen_of_cells x1
  simp at k0 k1 k2
  obtain ⟨gb, hgb⟩ : ∃ gb, w.heap.size = gb := ⟨_, rfl⟩
  rw [hgb] at k0 k1 k2 kf x1
  have HB := Lib.hid hb
  have HW := Lib.hid hW
  have HGB := Lib.hid hgb
  have X1 := Lib.hid x1
  clear hb hW hgb x1
  go_enter Tryz.func36, Tryz.ntmps36
  go_upto_region 1 with fail
  rw [HW.out]
  try rw [HGB.out]
  go_wp2_with fail
  have hrow : ((((W.setCell ⟨gb, 0, none⟩ (.int .i64 6)).setCell ⟨gb, 1, none⟩ (.int .i64 2)).setCell ⟨gb, 2, none⟩ (.int .i64 3))).heap[gb]? = some (.cells #[.int .i64 6, .int .i64 2, .int .i64 3] 78 (0, 0)) := by
    simp [World.setCell, Array.getElem?_modify, X1.out]
  refine bodyPost_ret (v := .agg #[.int .i64 6, .int .i64 2, .int .i64 3]) (results_cell_row rfl _ _ _ _ _ _ _ rfl hrow Tryz.underlying78 rfl (by kernel_rfl)) rfl ?_
  have hg := HGB.out
  exact ⟨rfl, ((HB.out.setCell (by show _ ≤ gb; omega) _).setCell (by show _ ≤ gb; omega) _).setCell (by show _ ≤ gb; omega) _⟩
/-- The view of an empty log. -/
def v0 : Vw := ⟨0, 0, []⟩
theorem right0 : rightV v0 = true := by
  rw [rightV_iff]
  refine ⟨by decide, by decide, by decide, by decide, by decide, ?_⟩
  simp [v0, rowB]
theorem from0 : fromL v0 0 = [] := by
  unfold fromL
  rw [right0]
  rfl
theorem start0 {id : Int} {is : List Int} (h0 : 0 ≤ id) (h1 : id < 16) (hr : is = [] ∨ C.rightB is = true) : startB id 0 is v0 = true := by
  unfold startB
  have e1 : atV v0 (lastV v0) = 0 := by simp [atV, lastV, v0]
  rw [right0, e1]
  rcases hr with rfl | hr
  · simp [v0, h0, h1]
  · simp [v0, h0, h1, hr]
/-- A server that begins with these servers, and nothing else. -/
structure OneSt (s : RSt) (id : Int) (is : List Int) : Prop where
  n : s.n = 0
  commit : s.commit = 0
  is : s.is = is
  id : s.id = id
  term : s.term = 0
  voted : s.voted = -1
  role : s.role = 0
  round : s.round = 0
  m : s.m = 0
def RetOne (id : Int) (is : List Int) (draw : Int) (w : World) (e : Ending) (w' : World) : Prop :=
  ∃ (r : Nat) (s : RSt), e = .returned (.pointer (some ⟨r, 0, none⟩)) ∧ Lone w' w.heap.size r s [] [] ∧ OneSt s id is ∧ TimerAt w' s.tg 0 (limitV 6 draw) 6 ∧ w.heap.size ≤ r ∧ w.heap.size ≤ s.tg ∧ Below w.heap.size w w'
set_option maxRecDepth 16384 in
set_option maxHeartbeats 4000000 in
theorem one_any (id : Int) (A : Option Addr) (is : List Int) (c : Nat) (draw : Int) (w : World) (h0 : 0 ≤ id) (h1 : id < 16) (hr : is = [] ∨ C.rightB is = true) (hl : is.length ≤ 7) (hc : is.length ≤ c) (hs : Sees w A (is.map i64v)) :
    Calls Tryz.prog 9 #[.int .i64 id, .slice A is.length c, .int .i64 draw] w (RetOne id is draw w) := by
  have HO := Lib.hid options_any
  have HN := Lib.hid num15_any
  have HS := Lib.hid hs
  have HNEW := Lib.hid (fun (W' : World) (B : Option Addr) (d : Nat) (hd : is.length ≤ d) (hB : Sees W' B (is.map i64v)) => new_good 6 2 3 id 0 B is d v0 none 0 0 draw W' hd (by omega) hB rfl (by decide) (SeenE.nil _ _) (by intro x hx; cases hx) (by decide) (start0 h0 h1 hr))
  unfold startVs v0 at HNEW
  simp only at HNEW
  have HC := Lib.hid hc
  have HL := Lib.hid hl
  obtain ⟨m, hm⟩ : ∃ m, is.length = m := ⟨_, rfl⟩
  have HM := Lib.hid hm
  have HML : Hid ((is.map i64v).length = m * 1) := Lib.hid (by simp [hm])
  have HM7 : Hid (0 + m ≤ maxLen) := Lib.hid (by simp only [maxLen]; omega)
  have HM8 : Hid ((0 + m) * 8 ≤ 140737488355328) := Lib.hid (by omega)
  rw [hm] at HNEW ⊢
  clear h0 h1 hr hl hc hs hm
  go_enter Tryz.func9, Tryz.ntmps9
  go_wp2_with (first
    | (go_at_call 36; refine (HO.out _).mono ?_; rintro e w2 ⟨rfl, hb2⟩; have p1 := own_made0 w2 3 1; have p2 := HS.out.below (hb2.alloc hb2.size (.cells #[] 3)); have HB2 := Lib.hid hb2; clear hb2)
    | (at_builtin; go_loud (refine wpList_append_sees rfl (.tmp 12) (.tmp 13) 23 rfl w2.heap.size 3 (.int .i64 0) 1 8 Tryz.underlying23 C.infoInt rfl (by decide) (.slice (some ⟨w2.heap.size, 0, none⟩) 0 0) 0 [] rfl p1 A m c (is.map i64v) rfl HML.out p2 (C.ints_one _) HM7.out HM8.out (by simp) ?_); intro A' c' w' hown hg hat; have HOWN := Lib.hid hown; have HG := Lib.hid hg; have P1 := Lib.hid p1; have HB3 := Lib.hid (below_grown_own (HB2.out.alloc HB2.out.size (.cells #[] 3)) (by rw [World.size_alloc]; exact Nat.le_succ_of_le HB2.out.size) p1 HB2.out.size hg); clear hown hg hat p1 p2)
    | (go_at_call 34; refine (HNEW.out w' A' c' (by simpa using (sees_own' HOWN.out).2.1) (by simpa using (sees_own' HOWN.out).2.2.2)).mono ?_; rintro e w4 ⟨r, bk, tg, A4, n4, c4, B4, d4, rfl, hr4, htg4, hat4, how4, hown4, htm4, hb4⟩; have HR4 := Lib.hid hr4; have HTG4 := Lib.hid htg4; have HAT4 := Lib.hid hat4; have HOW4 := Lib.hid how4; have HOWN4 := Lib.hid hown4; have HTM4 := Lib.hid htm4; have HB4 := Lib.hid hb4; clear hr4 htg4 hat4 how4 hown4 htm4 hb4)
    | (go_at_call 24; refine (HN.out _ _).mono ?_; rintro e w5 ⟨rfl, rfl⟩)
    | fail)
  go_ret
  have hz3 : w.heap.size ≤ w'.heap.size := HB3.out.size
  have how := HOW4.out
  have hfe : fromL (⟨0, 0, []⟩ : Vw) 0 = [] := from0
  rw [hfe] at how
  obtain rfl : n4 = 0 := by have := how.see.2.1; simpa using this.symm
  obtain ⟨cells, hrow, hrec⟩ := how
  obtain rfl : cells = [] := by have := hrow.1; simpa using this
  have hown4 := HOWN4.out
  refine ⟨r, { peers := .map none, places := .map none, round := 0, beat := 0, book := .pointer (some ⟨bk, 0, none⟩), A := A4, n := 0, c := c4, commit := 0, B := B4, d := d4, is := is, id := id, term := 0, voted := -1, role := 0, leader := -1, tg := tg, yes := .slice none 0 0, O := none, m := 0, co := 0 }, rfl, ?_, ⟨rfl, rfl, rfl, rfl, rfl, rfl, rfl, rfl, rfl⟩, HTM4.out, Nat.le_trans hz3 HR4.out, Nat.le_trans hz3 HTG4.out, below_step HB3.out hz3 HB4.out⟩
  exact { at_ := HAT4.out
          log := own_lower hrow hz3
          ops := ⟨rfl, .inl ⟨rfl, rfl⟩⟩
          base := own_lower hown4 hz3
          head := fun i j hj => absurd hj (Nat.not_lt_zero _)
          n4 := by show 0 ≤ 4096; omega
          m4 := by show 0 ≤ 1000000; omega
          l7 := HL.out
          bz := Nat.le_trans hz3 HB4.out.size }
/-- k ticks of a server alone. -/
def TickI (b0 r : Nat) (s : RSt) (w : World) (s2 : Value) (wr : World) : Prop :=
  ∃ k : Nat, s2 = .int .i64 (k : Int) ∧ Below b0 w wr ∧ ((k ≤ 5 ∧ Lone wr b0 r s [] [] ∧ TimerAt wr s.tg (k : Int) 6 6) ∨ (k = 6 ∧ Leads b0 r 3 wr))
set_option maxRecDepth 16384 in
set_option maxHeartbeats 4000000 in
theorem knows15_any (w : World) : Calls Tryz.prog 10 #[] w (RetBool w true) := by
  obtain ⟨W, hW⟩ : ∃ W, w.alloc (.cells #[.int .i64 3] 3) = W := ⟨_, rfl⟩
  have hb : Below w.heap.size w W := by rw [← hW]; exact (Below.refl _ _).alloc (Nat.le_refl _) _
  have hs : Sees W (some ⟨w.heap.size, 0, none⟩) ([3].map i64v) := by rw [← hW]; exact sees_new w _ _
  have HO := Lib.hid (one_any 3 (some ⟨w.heap.size, 0, none⟩) [3] 1 0 W (by decide) (by decide) (.inr (by decide)) (by decide) (by decide) hs)
  have HB := Lib.hid hb
  have HW := Lib.hid hW
  clear hb hW hs
  go_enter Tryz.func10, Tryz.ntmps10
  go_upto_region 2 with (first
    | (go_at_call 9; rw [HW.out]; refine HO.out.mono ?_; rintro e w2 ⟨r, s, rfl, hlo, hst, htm, hr, htg, hb2⟩; have HLO := Lib.hid hlo; have HST := Lib.hid hst; have HTM := Lib.hid htm; have HR := Lib.hid hr; have HTG := Lib.hid htg; have HB2 := Lib.hid hb2; clear hlo hst htm hr htg hb2)
    | fail)
  obtain ⟨b0, hb0⟩ : ∃ b0, W.heap.size = b0 := ⟨_, rfl⟩
  rw [hb0] at HLO HR HTG
  have HI : Hid (TickI b0 r s w2 (.int .i64 0) w2) := Lib.hid ⟨0, rfl, Below.refl _ _, .inl ⟨by omega, HLO.out, HTM.out⟩⟩
  have HF : Hid (∀ wr, Below b0 w2 wr → Below w.heap.size w wr) := Lib.hid (fun wr h => (HB.out.trans (HB2.out.mono HB.out.size)).trans (h.mono (by rw [← hb0]; exact HB.out.size)))
  have HTGE : Hid (∀ b, b = s.tg → b0 ≤ b) := Lib.hid (fun b hb => hb ▸ HTG.out)
  clear HO HW HLO HTM HB2 hb0
  go_wp2_with fail
  go_loopw [2] (fun s2 wr => TickI b0 r s w2 s2 wr) (fun s2 _ => 6 - (intOf s2).toNat)
  case atStart => exact HI.out
  case round =>
    obtain ⟨k, rfl, hbk, hk⟩ := hrel
    have HBK := Lib.hid hbk
    rcases hk with ⟨hk, hlo, htm⟩ | ⟨rfl, hle⟩
    · have HLO := Lib.hid hlo
      have HTM := Lib.hid htm
      have hki : (k : Int) < 6 := by omega
      rcases Nat.lt_or_ge k 5 with h5 | h5
      · have HT := Lib.hid (tick_wait 0 (k : Int) 6 wr hlo HST.out.role htm (by omega) (by omega) (by decide))
        clear hbk hlo htm
        go_wp2_with (first
          | (go_at_call 13; refine HT.out.mono ?_; rintro e w3 ⟨rfl, hl3, ht3, ho3⟩; have HL3 := Lib.hid hl3; have HT3 := Lib.hid ht3; have HB3 := Lib.hid (HBK.out.trans (ho3.below HTGE.out HLO.out.bz)); clear hl3 ht3 ho3)
          | fail)
        go_roundw
        case rel => exact ⟨k + 1, by go_num, HB3.out, .inl ⟨by omega, HL3.out, by rw [show ((k + 1 : Nat) : Int) = (k : Int) + 1 by omega]; exact HT3.out⟩⟩
        case measure => simp [intOf] <;> omega
      · obtain rfl : k = 5 := by omega
        have st := HST.out
        have HT := Lib.hid (tick_goes 0 5 6 wr hlo st.n (by rw [st.is, st.id]) st.term st.commit (by rw [st.id]; rfl) st.round (by rw [st.m]; decide) st.role htm (by decide) (by decide) (by decide) HR.out HTG.out)
        rw [st.id] at HT
        clear hbk hlo htm st
        go_wp2_with (first
          | (go_at_call 13; refine HT.out.mono ?_; rintro e w3 ⟨rfl, hl3, hb3⟩; have HL3 := Lib.hid hl3; have HB3 := Lib.hid (HBK.out.trans hb3); clear hl3 hb3)
          | fail)
        go_roundw
        case rel => exact ⟨6, rfl, HB3.out, .inr ⟨rfl, HL3.out⟩⟩
        case measure => simp [intOf] <;> omega
    · obtain ⟨s', cells', ops', hl, e1, e2, e3, e4⟩ := hle
      have HRo := Lib.hid (role_made wr hl)
      have HTe := Lib.hid (term_made wr hl)
      have HCo := Lib.hid (commit_made wr hl)
      have HLe := Lib.hid (leader_made wr hl)
      rw [e1] at HRo
      rw [e4] at HTe
      rw [e3] at HCo
      rw [e2] at HLe
      clear hbk hl e1 e2 e3 e4
      go_wp2_with (first
        | (go_at_call 27; refine HRo.out.mono ?_; rintro e w3 ⟨rfl, rfl⟩)
        | (go_at_call 23; refine HTe.out.mono ?_; rintro e w3 ⟨rfl, rfl⟩)
        | (go_at_call 31; refine HCo.out.mono ?_; rintro e w3 ⟨rfl, rfl⟩)
        | (go_at_call 30; refine HLe.out.mono ?_; rintro e w3 ⟨rfl, rfl⟩)
        | fail)
      go_ret
      exact ⟨rfl, HF.out _ HBK.out⟩
end Go.Proofs.YtoongmoajnedlaaGreat
