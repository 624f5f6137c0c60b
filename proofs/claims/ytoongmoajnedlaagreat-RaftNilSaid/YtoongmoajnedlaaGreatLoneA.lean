/-
  A server alone: turn, begin.
-/
import Derived.Test.YtoongmoajnedlaaGreatPutA
import Derived.Test.YtoongmoajnedlaaGreatSettle
set_option linter.unusedVariables false
set_option linter.unusedSimpArgs false
namespace Go.Proofs.YtoongmoajnedlaaGreat
open Go.RowKit Go.Maps

theorem send_none (r c : Nat) (A : Option Addr) (w : World) : Calls Tryz.prog 62 #[.pointer (some ⟨r, 0, none⟩), .slice A 0 c] w (fun e w' => e = .returned (.tuple #[]) ∧ w = w') := by
  go_enter Tryz.func62, Tryz.ntmps62
  go_wp2_with fail
  go_loopw [12] (fun s12 wr => s12 = .int .i64 0 ∧ w = wr) (fun _ _ => 0)
  case atStart => exact ⟨rfl, rfl⟩
  case round =>
    obtain ⟨rfl, rfl⟩ := hrel
    go_wp2_with fail
    go_end0
    exact ⟨rfl, rfl⟩
theorem filt_self (x : Int) : C.filt [x] x = [] := by simp [C.filt]
section
variable {b0 r : Nat} {s : RSt} {cells ops : List Value}
/-- It has no others. -/
theorem others_alone (w : World) (h : Lone w b0 r s cells ops) (his : s.is = [s.id]) : Calls Tryz.prog 63 #[.pointer (some ⟨r, 0, none⟩)] w (fun e w' => ∃ A c, e = .returned (.slice A 0 c) ∧ Below w.heap.size w w') := by
  refine (others_any s.id w h.logAt (h.at_.cell (j := 17) rfl)).mono ?_
  rintro e w' ⟨A, c, rfl, ho, hb⟩
  rw [his, filt_self]
  exact ⟨A, c, rfl, hb⟩
theorem turn_one {A3 : Option Addr} {c3 pb : Nat} (w : World) (h : Lone w b0 r s (four 1 1 1 A3 0 c3) ops) (hn : s.n = 1) (his : s.is = [s.id]) (hr : s.role = 3) (ht : s.term = 1) (hc : s.commit = 0) (hp : s.peers = .map (some pb)) (hnp : NoPeers w pb) (hpr : pb ≠ r) (hwf : (Lit.int .i64 s.id).wf = true) (hrd : s.round = 0) :
    Calls Tryz.prog 53 #[.pointer (some ⟨r, 0, none⟩)] w (fun e w' => e = .returned (.tuple #[]) ∧ Lone w' b0 r { s with commit := 1, round := 1 } (four 1 1 1 A3 0 c3) ops ∧ Outside (· = r) w w') := by
  obtain ⟨w1, hw1⟩ : ∃ w1, w.setCell ⟨r, 2, none⟩ (.int .i64 1) = w1 := ⟨_, rfl⟩
  have h1 : Lone w1 b0 r { s with round := 1 } (four 1 1 1 A3 0 c3) ops := by rw [← hw1]; exact h.set 2 _ _ rfl rfl
  have ho1 : Outside (· = r) w w1 := by rw [← hw1]; exact (Outside.refl _ _).set _ _ (.inr rfl)
  have hnp1 : NoPeers w1 pb := hnp.block (by rw [← hw1]; exact Below.heap_setCell _ _ _ _ hpr)
  have c2 : w.cell? ⟨r, 2, none⟩ = some (.int .i64 0) := h.at_.cell (j := 2) (by rw [← hrd]; rfl)
  have f2 := h.at_.frozen 2
  have HO := Lib.hid (others_alone w1 h1 his)
  have HS := Lib.hid (fun w' (hb : Below w1.heap.size w1 w') => settle_one w' (h1.below hb) hn his hr ht hc hp (hnp1.block (hb.block pb (by obtain ⟨_, _, h9, _⟩ := hnp1; exact (Array.getElem?_eq_some_iff.1 h9).1))) hwf)
  have HW1 := Lib.hid hw1
  have HO1 := Lib.hid ho1
  clear h hn his hr ht hc hp hnp hwf hw1 h1 ho1 hnp1 hrd
  go_enter Tryz.func53, Tryz.ntmps53
  go_upto_region 1 with fail
  rw [HW1.out]
  clear c2 f2
  go_wp2_with (first
    | (go_at_call 63; refine HO.out.mono ?_; rintro e w2 ⟨A2, c2, rfl, hb2⟩; have HB2 := Lib.hid hb2; clear hb2)
    | (go_at_call 62; refine (send_none r c2 A2 _).mono ?_; rintro e w3 ⟨rfl, rfl⟩)
    | (go_at_call 64; refine (HS.out _ HB2.out).mono ?_; rintro e w4 ⟨rfl, hl4, ho4⟩; have HL4 := Lib.hid hl4; have HO4 := Lib.hid ho4; clear hl4 ho4)
    | fail)
  go_end0
  exact ⟨rfl, HL4.out, (HO1.out.trans (Outside.of_below (S := (· = r)) HB2.out) (fun _ _ h => h)).trans HO4.out (fun _ _ h => h)⟩
end
end Go.Proofs.YtoongmoajnedlaaGreat
/-
  A server alone: it begins to lead.
-/
set_option linter.unusedVariables false
set_option linter.unusedSimpArgs false
namespace Go.Proofs.YtoongmoajnedlaaGreat
open Go.RowKit Go.Maps

section
variable {b0 r : Nat} {s : RSt} {ops : List Value}
theorem Lone.lt_own {W : World} {cells : List Value} (h : Lone W b0 r s cells ops) {b : Nat} (hb : Lone.Own s r b) : b < W.heap.size := by
  rcases hb with rfl | hb | hb
  · exact h.at_.lt
  · exact (own_block_ge h.log b hb).2
  · exact (own_block_ge h.ops b hb).2
/-- It leads, and has committed its first entry. -/
def Led (b0 r : Nat) (s : RSt) (w w' : World) : Prop :=
  ∃ (s' : RSt) (cells' ops' : List Value), Lone w' b0 r s' cells' ops' ∧ s'.role = 3 ∧ s'.leader = s.id ∧ s'.commit = 1 ∧ s'.term = s.term ∧ s'.tg = s.tg ∧ s'.id = s.id ∧ s'.is = s.is ∧ Outside (Lone.Own s r) w w'
set_option maxRecDepth 16384 in
set_option maxHeartbeats 4000000 in
theorem begin_one (w : World) (h : Lone w b0 r s [] ops) (hn : s.n = 0) (his : s.is = [s.id]) (ht : s.term = 1) (hc : s.commit = 0) (hwf : (Lit.int .i64 s.id).wf = true) (hrd : s.round = 0) (hm : s.m < 1000) :
    Calls Tryz.prog 158 #[.pointer (some ⟨r, 0, none⟩)] w (fun e w' => e = .returned (.tuple #[]) ∧ Led b0 r s w w') := by
  obtain ⟨id, hid⟩ : ∃ id, s.id = id := ⟨_, rfl⟩
  have c17 : w.cell? ⟨r, 17, none⟩ = some (.int .i64 id) := h.at_.cell (by rw [← hid]; rfl)
  have ff := h.at_.frozen
  have c20 := h.at_.cell (j := 20) rfl
  have c21 := h.at_.cell (j := 21) rfl
  have c3 := h.at_.cell (j := 3) rfl
  obtain ⟨w1, hw1⟩ : ∃ w1, ((w.setCell ⟨r, 20, none⟩ (.int .i64 3)).setCell ⟨r, 21, none⟩ (.int .i64 id)).setCell ⟨r, 3, none⟩ (.int .i64 0) = w1 := ⟨_, rfl⟩
  have h1 : Lone w1 b0 r { s with role := 3, leader := id, beat := 0 } [] ops := by
    rw [← hw1]
    exact ((h.set 20 (.int .i64 3) { s with role := 3 } rfl rfl).set 21 (.int .i64 id) { s with role := 3, leader := id } rfl rfl).set 3 (.int .i64 0) { s with role := 3, leader := id, beat := 0 } rfl rfl
  have ho1 : Outside (Lone.Own s r) w w1 := by rw [← hw1]; exact (((Outside.refl _ _).set _ _ (.inr (.inl rfl))).set _ _ (.inr (.inl rfl))).set _ _ (.inr (.inl rfl))
  have hb2 : Below w1.heap.size w1 ((w1.alloc (.map #[] 0)).alloc (.map #[] 0)) := ((Below.refl _ _).alloc (Nat.le_refl _) _).alloc (by simp) _
  have h2 := h1.below hb2
  have d0 := h2.at_.cell (j := 0) rfl
  have d1 := h2.at_.cell (j := 1) rfl
  have df := h2.at_.frozen
  have hnp : NoPeers ((w1.alloc (.map #[] 0)).alloc (.map #[] 0)) w1.heap.size := NoPeers.block (World.ownsMap_made w1 _ _ _) (Below.heap_alloc _ _ _ (by simp))
  obtain ⟨pb, hpb⟩ : ∃ pb, w1.heap.size = pb := ⟨_, rfl⟩
  obtain ⟨w3, hw3⟩ : ∃ w3, (((w1.alloc (.map #[] 0)).alloc (.map #[] 0)).setCell ⟨r, 0, none⟩ (.map (some pb))).setCell ⟨r, 1, none⟩ (.map (some (pb + 1))) = w3 := ⟨_, rfl⟩
  have hrl : r < w1.heap.size := h1.at_.lt
  have h3 : Lone w3 b0 r { s with role := 3, leader := id, beat := 0, peers := .map (some pb), places := .map (some (pb + 1)) } [] ops := by
    rw [← hw3]
    exact (h2.set 0 (.map (some pb)) { s with role := 3, leader := id, beat := 0, peers := .map (some pb) } rfl rfl).set 1 (.map (some (pb + 1))) { s with role := 3, leader := id, beat := 0, peers := .map (some pb), places := .map (some (pb + 1)) } rfl rfl
  have hnp3 : NoPeers w3 pb := by
    rw [← hw3]
    rw [hpb] at hnp
    exact NoPeers.block (NoPeers.block hnp (Below.heap_setCell _ _ _ _ (by show pb ≠ r; omega))) (Below.heap_setCell _ _ _ _ (by show pb ≠ r; omega))
  have ho3 : Outside (Lone.Own s r) w w3 := by
    rw [← hw3]
    exact ((ho1.trans (Outside.of_below (S := Lone.Own s r) hb2) (fun _ _ h => h)).set _ _ (.inr (.inl rfl))).set _ _ (.inr (.inl rfl))
  have HW3 := Lib.hid hw3
  have HPB := Lib.hid hpb
  have H3 := Lib.hid h3
  have HNP3 := Lib.hid hnp3
  have HO3 := Lib.hid ho3
  have HRL := Lib.hid hrl
  have hsz1 := ho1.size
  have HSZ1 := Lib.hid hsz1
  have hmm := @run_makeMap Tryz.prog
  have HW1 := Lib.hid hw1
  have H := Lib.hid h
  have H1 := Lib.hid h1
  have HO1 := Lib.hid ho1
  have HID := Lib.hid hid
  clear h hw1 h1 ho1 hid hb2 h2 hnp hpb hw3 hrl h3 hnp3 ho3 hsz1
  go_enter Tryz.func158, Tryz.ntmps158
  go_upto_region 1 with fail
  rw [HW1.out]
  clear c17 ff c20 c21 c3
  go_upto_region 2 with fail
  rw [HPB.out]
  rw [HW3.out]
  clear d0 d1 df hmm
  have HO := Lib.hid (others_alone w3 H3.out his)
  have HPT := Lib.hid (fun w' (hb : Below w3.heap.size w3 w') => put_any 1 w' (H3.out.below hb) (by show s.n < 4096; omega) (by show s.m < 1000000; omega) (by decide))
  have HN := Lib.hid hn
  have HT := Lib.hid ht
  have HAR : Hid (s.is = [s.id] ∧ s.commit = 0 ∧ (Lit.int .i64 s.id).wf = true ∧ s.round = 0) := Lib.hid ⟨his, hc, hwf, hrd⟩
  clear hn ht his hc hwf hrd hm
  go_upto_region 7 with (first
    | (go_at_call 63; refine HO.out.mono ?_; rintro e w4 ⟨A4, c4, rfl, hb4⟩; have HB4 := Lib.hid hb4; clear hb4)
    | fail)
  go_loopw [31] (fun s31 wr => s31 = .int .i64 0 ∧ w4 = wr) (fun _ _ => 0)
  case atStart => exact ⟨rfl, rfl⟩
  case round =>
    obtain ⟨rfl, rfl⟩ := hrel
    go_upto_region 8 with (first
      | (go_at_call 61; refine (HPT.out _ HB4.out).mono ?_; rintro e w5 ⟨A9, c9, A3, c3, O9, co9, news, rfl, hl5, ho5⟩)
      | fail)
    have e5 : ([] ++ four s.term ((s.n : Int) + 1) 1 A3 0 c3) = four 1 1 1 A3 0 c3 := by rw [HN.out, HT.out]; rfl
    have hl5' := hl5
    rw [e5] at hl5'
    have hpw3 : pb < w3.heap.size := by obtain ⟨_, _, h9, _⟩ := HNP3.out; exact (Array.getElem?_eq_some_iff.1 h9).1
    have hpb4 : pb < w4.heap.size := Nat.lt_of_lt_of_le hpw3 HB4.out.size
    have hlow : ∀ b, Lone.Own s r b → b < w.heap.size := fun b hb => H.out.lt_own hb
    have hnp5 : NoPeers w5 pb := (HNP3.out.block (HB4.out.block pb hpw3)).block (ho5.block pb hpb4 (fun hb => by have h9 := hlow pb hb; have := HPB.out; have := HSZ1.out; omega))
    have HTN := Lib.hid (turn_one w5 hl5' (by show s.n + 1 = 1; rw [HN.out]) HAR.out.1 rfl HT.out HAR.out.2.1 rfl hnp5 (by have := HRL.out; have := HPB.out; omega) HAR.out.2.2.1 HAR.out.2.2.2)
    have HO5 : Hid (Outside (Lone.Own s r) w w5) := Lib.hid ((HO3.out.trans (Outside.of_below (S := Lone.Own s r) HB4.out) (fun _ _ h => h)).trans ho5 (fun _ _ h => h))
    clear hl5 hl5' ho5 e5 hnp5 hlow hpw3 hpb4
    go_wp2_with (first
      | (go_at_call 53; refine HTN.out.mono ?_; rintro e w6 ⟨rfl, hl6, ho6⟩; have HL6 := Lib.hid hl6; have HO6 := Lib.hid ho6; clear hl6 ho6)
      | fail)
    go_end0
    exact ⟨rfl, _, _, _, HL6.out, rfl, HID.out.symm, rfl, rfl, rfl, rfl, rfl, HO5.out.trans HO6.out (fun _ _ h => .inl h)⟩
end
end Go.Proofs.YtoongmoajnedlaaGreat
