/-
  The iterator of package frame, and Scan.
-/
import Derived.Test.YtfbcdlbcdaobcaaFrame
import Derived.Test.YtfbcdlbcdaobcaaRange
import Derived.Stop.RegionWithIn
import Derived.BigRegionIn
set_option linter.unusedVariables false
set_option linter.unusedSimpArgs false
namespace Go.Proofs.Ytfbcdlbcdaobcaa
open Go.RowKit

theorem frames_any (v : Value) (hv : v.oneCell' = true) (w : World) : Calls Try.prog 23 #[v] w fun e w' => e = .returned (.func (.func 27) #[] #[.pointer (some ⟨w.heap.size, 0, none⟩)]) ∧ w.alloc (.cells #[v] 22) = w' := by
  cases v <;> first | cases hv | skip
  all_goals
    go_enter Try.func23, Try.ntmps23
    go_wp2
    try go_ret
    try exact ⟨rfl, rfl⟩

/-- What the iterator hands over: where the frame ends, and the frame, its data a row of its own. -/
def frEnc (n0 : Nat) (xs : List (UInt8 × List UInt8)) (k : Nat) (x : UInt8 × List UInt8) (args : Array Value) (W : World) : Prop :=
  ∃ A c, args = #[.int .i64 (size (xs.take (k + 1)) : Int), .agg #[.int .i64 (x.1.toNat : Int), .slice A x.2.length c]] ∧ W.ownsRow n0 5 1 (.slice A x.2.length c) x.2.length (u8s x.2)

/-- What the iterator's variable holds. -/
def frBox (Bn : Nat) (A : Option Addr) (rb : List UInt8) (c : Nat) (W : World) : Prop := Box W Bn 22 (.slice A rb.length c)

theorem one_no9 {rb : List UInt8} (h : rb.length < 9) : one rb = none := by unfold one; rw [if_pos h]
theorem one_big {rb : List UInt8} (h : ¬ rb.length < 9) (h1 : 65536 < num4 rb ∨ rb.length - 9 < num4 rb) : one rb = none := by unfold one; rw [if_neg h, if_pos h1]
theorem one_sum {rb : List UInt8} (h : ¬ rb.length < 9) (h1 : ¬ (65536 < num4 rb ∨ rb.length - 9 < num4 rb)) (h2 : crc ((rb.drop 8).take (num4 rb + 1)) ≠ num4 (rb.drop 4)) : one rb = none := by unfold one; rw [if_neg h, if_neg h1, if_pos h2]
theorem one_yes {rb : List UInt8} (h : ¬ rb.length < 9) (h1 : ¬ (65536 < num4 rb ∨ rb.length - 9 < num4 rb)) (h2 : crc ((rb.drop 8).take (num4 rb + 1)) = num4 (rb.drop 4)) : one rb = some (rb.getD 8 0, (rb.drop 9).take (num4 rb)) := by unfold one; rw [if_neg h, if_neg h1, if_neg (by simp [h2])]

/-- Between two rounds of the iterator. -/
def frRel (n0 Bn : Nat) (bs : List UInt8) (Kb : Nat → Prop) (J : Nat → World → Prop) (at_ : Value) (wr : World) : Prop :=
  ∃ (k pos : Nat) (A' : Option Addr) (rb : List UInt8) (c' : Nat), at_ = .int .i64 (pos : Int) ∧ k ≤ (scan bs).length ∧ pos + rb.length = bs.length ∧ pos = size ((scan bs).take k) ∧ Hid (scan rb = (scan bs).drop k) ∧ rb.length ≤ c' ∧ c' ≤ maxLen ∧ Hid (∀ ad, A' = some ad → 0 < rb.length → ad.block ≠ Bn ∧ Kb ad.block) ∧
      frBox Bn A' rb c' wr ∧ Sees wr A' (u8s rb) ∧ J k wr ∧ n0 ≤ wr.heap.size

theorem two_ways {e : Ending} {p q : Prop} (h : (e = .returned (.bool true) ∧ p) ∨ (e = .returned (.bool false) ∧ q)) : ∃ b, e = .returned (.bool b) ∧ Hid ((b = true ∧ p) ∨ (b = false ∧ q)) := by
  rcases h with ⟨rfl, h⟩ | ⟨rfl, h⟩
  · exact ⟨true, rfl, .inl ⟨rfl, h⟩⟩
  · exact ⟨false, rfl, .inr ⟨rfl, h⟩⟩

set_option maxHeartbeats 2000000 in
theorem frames_seq (n0 Bn : Nat) (A : Option Addr) (bs : List UInt8) (c : Nat) (Kb : Nat → Prop) (w : World) (hc : bs.length ≤ c) (hcm : c ≤ maxLen) (hl : bs.length ≤ 140737488355328) (hs : Sees w A (u8s bs)) (hbox : frBox Bn A bs c w)
    (hA : ∀ ad, A = some ad → 0 < bs.length → ad.block ≠ Bn ∧ Kb ad.block) (hB : Kb Bn) (hn0 : n0 ≤ w.heap.size) :
    SeqX Try.prog 27 #[.pointer (some ⟨Bn, 0, none⟩)] (frEnc n0 (scan bs)) (scan bs) (fun X Y => ∃ v, Y = X.setCell ⟨Bn, 0, none⟩ v) Kb w := by
  intro l J Jx W hW hJ hJx hY h0
  have hsW := hs.below hW
  have hbW : frBox Bn A bs c W := (hW.block Bn (Array.getElem?_eq_some_iff.1 hbox).1).trans hbox
  have hn0W : n0 ≤ W.heap.size := Nat.le_trans hn0 hW.size
  clear hs hbox hW hn0
  have HJ := Lib.hid hJ
  have HJx := Lib.hid hJx
  have HY := Lib.hid hY
  have HA := Lib.hid hA
  clear hJ hJx hY hA
  refine callsIn_wide.2 ?_
  go_enter Try.func27, Try.ntmps27
  go_wp2
  go_loopw [3] (fun at_ wr => frRel n0 Bn bs Kb J at_ wr) (fun at_ _ => bs.length - (intOf at_).toNat)
  case atStart => exact ⟨0, 0, A, bs, c, rfl, Nat.zero_le _, by omega, by simp [size], Lib.hid rfl, hc, hcm, HA, hbW, hsW, h0, hn0W⟩
  case round =>
    obtain ⟨k, pos, A', rb, c', rfl, hk, hpos, hsz, HS, hc', hcm', HA', hbx, hsee, hj, hnz⟩ := hrel
    have HB := Lib.hid hbx
    have HSZ := Lib.hid hsz
    have HP := Lib.hid hpos
    have hcell : wr.cell? ⟨Bn, 0, none⟩ = some (.slice A' rb.length c') := Box.cell hbx
    have hrl : rb.length ≤ 140737488355328 := by omega
    simp only [maxLen] at hcm'
    clear hbx hsz hpos
    by_cases h9 : rb.length < 9
    · have e1 : one rb = none := one_no9 h9
      have e2 : (scan bs).length ≤ k := by
        have := HS.out
        rw [scan_none e1] at this
        have := congrArg List.length this
        simp at this
        omega
      obtain rfl : k = (scan bs).length := by omega
      clear e1
      go_wp2
      go_end0
      exact ⟨⟨_, rfl⟩, .inl hj⟩
    · obtain ⟨ad, rfl⟩ : ∃ ad, A' = some ad := by
        obtain ⟨ad, e, _⟩ := u8_at hsee 0 (by omega)
        exact ⟨ad, e⟩
      have hn32 := num4_lt rb
      have h9' : (9 : Int) ≤ (rb.length : Int) := by omega
      have stop : one rb = none → J (scan bs).length wr := fun e1 => by
        have := HS.out
        rw [scan_none e1] at this
        have := congrArg List.length this
        simp at this
        obtain rfl : k = (scan bs).length := by omega
        exact hj
      have HST := Lib.hid stop
      clear stop
      by_cases hbig : 65536 < num4 rb
      · have HK := Lib.hid (HST.out (one_big h9 (.inl hbig)))
        go_wp2_with (go_at_call 28; go_loud (refine (number_any (some ad) rb c' _ (by omega) (by exact hsee)).mono ?_); rintro e w' ⟨rfl, nq, rfl⟩)
        refine bodyPost_ret (results_none rfl _ _ _) rfl ?_
        exact ⟨⟨_, rfl⟩, .inl (HJ.out.1 _ _ _ HK.out (grown_drewN _ _))⟩
      by_cases hlen : rb.length < num4 rb + 9
      · have HK := Lib.hid (HST.out (one_big h9 (.inr (by omega))))
        have hlen' : (rb.length : Int) - 9 < (num4 rb : Int) := by omega
        go_wp2_with (go_at_call 28; go_loud (refine (number_any (some ad) rb c' _ (by omega) (by exact hsee)).mono ?_); rintro e w' ⟨rfl, nq, rfl⟩)
        refine bodyPost_ret (results_none rfl _ _ _) rfl ?_
        exact ⟨⟨_, rfl⟩, .inl (HJ.out.1 _ _ _ HK.out (grown_drewN _ _))⟩
      have s8 : Sees wr (some ⟨ad.block, ad.off + 8, none⟩) (u8s ((rb.drop 8).take (num4 rb + 1))) := by
        rw [u8s_take, u8s_drop, ← add_pos _ _ (by omega)]
        exact (hsee.drop 8).take _
      have s4 : Sees wr (some ⟨ad.block, ad.off + 4, none⟩) (u8s (rb.drop 4)) := by
        rw [u8s_drop, ← add_pos _ _ (by omega)]
        exact hsee.drop 4
      have l8 : ((rb.drop 8).take (num4 rb + 1)).length = 9 + num4 rb - 8 := by simp; omega
      have l4 : (rb.drop 4).length = rb.length - 4 := by simp
      have L8 := Lib.hid l8
      have L4 := Lib.hid l4
      clear l8 l4
      have hlen' : num4 rb + 9 ≤ rb.length := by omega
      have q1 : 9 + num4 rb - 8 ≤ c' - 8 := by omega
      have q2 : 9 + num4 rb - 8 ≤ 140737488355328 := by omega
      have q3 : 4 ≤ rb.length - 4 := by omega
      have i4 : (4 : Int) ≤ (rb.length : Int) := by omega
      have i4' : (rb.length : Int) ≤ (c' : Int) := by omega
      have j4 : 4 ≤ rb.length := by omega
      by_cases hsum : crc ((rb.drop 8).take (num4 rb + 1)) = num4 (rb.drop 4)
      case neg =>
        have HK := Lib.hid (HST.out (one_sum h9 (by omega) hsum))
        have b1 : (((crc ((rb.drop 8).take (num4 rb + 1)) : Nat) : Int) != ((num4 (rb.drop 4) : Nat) : Int)) = true := by simp; omega
        have b2 : ((crc ((rb.drop 8).take (num4 rb + 1))) != (num4 (rb.drop 4))) = true := by simp; omega
        clear hsum
        go_wp2_with (go_at_call 28; go_loud (refine (number_any (some ad) rb c' _ (by omega) (by exact hsee)).mono ?_); rintro e w' ⟨rfl, nq, rfl⟩)
        go_quiet (first
          | (go_at_call 10; exact quiet_at (crc_q _ _ (c' - 8) ((rb.drop 8).take (num4 rb + 1)) _ L8.out q1 q2 (s8.drewN _)))
          | (go_at_call 28; exact quiet_at (number_at _ _ _ (rb.drop 4) _ L4.out q3 (s4.drewN _))))
        go_wp2
        refine bodyPost_ret (results_none rfl _ _ _) rfl ?_
        exact ⟨⟨_, rfl⟩, .inl (HJ.out.1 _ _ _ HK.out ⟨rfl, rfl, rfl, Nat.le_refl _, fun _ _ _ => rfl⟩)⟩
      have hone := Lib.hid (one_yes h9 (by omega) hsum)
      have b1 : (((crc ((rb.drop 8).take (num4 rb + 1)) : Nat) : Int) != ((num4 (rb.drop 4) : Nat) : Int)) = false := by simp; omega
      have b2 : ((crc ((rb.drop 8).take (num4 rb + 1))) != (num4 (rb.drop 4))) = false := by simp; omega
      clear hsum
      have hF : wr.frozen? ⟨Bn, 0, none⟩ = false := Box.frozen HB.out
      have hpb : pos ≤ 140737488355328 := by have := HP.out; omega
      obtain ⟨X, hR, hX⟩ := slice_from (P := Try.prog) 22 1 (by kernel_rfl) (by kernel_rfl) ad rb.length c' (9 + num4 rb) (9 + (num4 rb : Int)) (by omega) (by omega)
      have HX := Lib.hid hX
      clear hX
      go_wp2_with (go_at_call 28; go_loud (refine (number_any (some ad) rb c' _ (by omega) (by exact hsee)).mono ?_); rintro e w' ⟨rfl, nq0, rfl⟩)
      go_quiet (first
        | (go_at_call 10; exact quiet_at (crc_q _ _ (c' - 8) ((rb.drop 8).take (num4 rb + 1)) _ L8.out q1 q2 (s8.drewN _)))
        | (go_at_call 28; exact quiet_at (number_at _ _ _ (rb.drop 4) _ L4.out q3 (s4.drewN _))))
      go_wp2
      obtain ⟨w2, hw2⟩ : ∃ w2, (wr.drewN (nq0 + nq)).setCell ⟨Bn, 0, none⟩ (.slice (some X) (rb.length - (9 + num4 rb)) (c' - (9 + num4 rb))) = w2 := ⟨_, rfl⟩
      rw [hw2]
      have hkw : ∀ p v, p.block ≠ Bn → wr.cell? p = some v → w2.cell? p = some v := fun p v hp h => by
        rw [← hw2, cell_far _ _ _ _ (by exact fun e => hp e.symm)]
        exact h
      have hne := (HA'.out ad rfl (by omega)).1
      have hkb := (HA'.out ad rfl (by omega)).2
      have hs2 : ∀ {off : Nat} {bs' : List UInt8}, Sees wr (some ⟨ad.block, off, none⟩) (u8s bs') → Sees w2 (some ⟨ad.block, off, none⟩) (u8s bs') := fun h j v hj => by
        obtain ⟨ad', e, hc⟩ := h j v hj
        exact ⟨ad', e, hkw _ _ (by rw [add_blk]; cases e; exact hne) hc⟩
      have s9 : Sees wr (some ⟨ad.block, ad.off + 9, none⟩) (u8s ((rb.drop 9).take (num4 rb))) := by
        rw [u8s_take, u8s_drop, ← add_pos _ _ (by omega)]
        exact (hsee.drop 9).take _
      have t9 := hs2 s9
      have hj2 : J k w2 := by
        rw [← hw2]
        exact HJ.out.2 _ (wr.drewN (nq0 + nq)) _ (HJ.out.1 _ _ _ hj ⟨rfl, rfl, rfl, Nat.le_refl _, fun _ _ _ => rfl⟩) ⟨_, rfl⟩
      have hnz2 : n0 ≤ w2.heap.size := by rw [← hw2]; simpa [World.setCell] using hnz
      have hk8 : w2.cell? ⟨ad.block, ad.off + 8, none⟩ = some (.int .u8 ((rb.getD 8 0).toNat : Int)) := by
        obtain ⟨ad', e, hc⟩ := u8_at hsee 8 (by omega)
        cases e
        rw [add_pos _ _ (by omega)] at hc
        rw [hkw _ _ (by exact hne) hc]
        simp [List.getD_eq_getElem?_getD, List.getElem?_eq_getElem (show 8 < rb.length by omega)]
      have hbx2 : frBox Bn (some X) (rb.drop (9 + num4 rb)) (c' - (9 + num4 rb)) w2 := by
        rw [← hw2]
        unfold frBox
        rw [show (rb.drop (9 + num4 rb)).length = rb.length - (9 + num4 rb) from by simp]
        exact Box.set (w := wr.drewN (nq0 + nq)) HB.out _
      obtain ⟨Y, hR9, hY9⟩ := slice_from (P := Try.prog) 22 1 (by kernel_rfl) (by kernel_rfl) ⟨ad.block, ad.off + 8, none⟩ (9 + num4 rb - 8) (c' - 8) 1 1 rfl (by omega)
      have hYs : Sees w2 (some Y) (u8s ((rb.drop 9).take (num4 rb))) := by
        rw [hY9]
        split
        · rw [show num4 rb = 0 from by omega]
          exact Sees.nil _ _
        · rw [add_pos _ _ (by omega)]
          exact t9
      have l9 : ((rb.drop 9).take (num4 rb)).length = 9 + num4 rb - 8 - 1 := by simp; omega
      have L9 := Lib.hid l9
      clear l9 hY9
      have q4 : 9 + num4 rb - 8 - 1 ≤ c' - 8 - 1 := by omega
      have q5 : 9 + num4 rb - 8 - 1 ≤ 140737488355328 := by omega
      have i0 : (0 : Int) < ((9 + num4 rb - 8 : Nat) : Int) := by omega
      have i0' : 0 < 9 + num4 rb - 8 := by omega
      refine (wpIn_wide (n := 0)).1 ?_
      have hscan : scan rb = (rb.getD 8 0, (rb.drop 9).take (num4 rb)) :: scan (rb.drop (9 + num4 rb)) := by
        have hln : ((rb.drop 9).take (num4 rb)).length = num4 rb := by rw [List.length_take, List.length_drop]; omega
        rw [scan_some hone.out, hln, Nat.add_comm]
      have hxk : (scan bs)[k]? = some (rb.getD 8 0, (rb.drop 9).take (num4 rb)) := by
        have := congrArg (fun l => l[0]?) (HS.out.symm.trans hscan)
        simpa using this
      have hsz1 : size ((scan bs).take (k + 1)) = pos + (9 + num4 rb) := by
        have hkl := (List.getElem?_eq_some_iff.1 hxk)
        rw [List.take_succ_eq_append_getElem hkl.1, size_append, hkl.2, HSZ.out, size_cons]
        simp only [List.length_take, List.length_drop, size, List.map_nil, List.sum_nil]
        omega
      obtain ⟨kb, hkb⟩ : ∃ kb, rb.getD 8 0 = kb := ⟨_, rfl⟩
      rw [hkb] at hk8 hscan hxk
      obtain ⟨kn, hkn⟩ : ∃ kn, kb.toNat = kn := ⟨_, rfl⟩
      have hk256 : kn < 256 := by rw [← hkn]; exact kb.toNat_lt
      rw [hkn] at hk8
      have HKB := Lib.hid hkb
      have HKN := Lib.hid hkn
      clear hkb hkn
      have HSC := Lib.hid hscan
      have HXK := Lib.hid hxk
      have HS1 := Lib.hid hsz1
      clear hscan hxk hsz1
      have hwk : IntKind.i64.wrap (kn : Int) = (kn : Int) := IntWalk.i64_in _ (by omega)
      gi_region_with (first
        | (refine ⟨trivial, rfl, ?_⟩; gi_at_call 29; refine (callsIn_wide.2 (clone_u8_at (some Y) (9 + num4 rb - 8 - 1) (c' - 8 - 1) ((rb.drop 9).take (num4 rb)) _ L9.out q4 q5 (by exact hYs))).mono ?_; rintro e w3 ⟨A3, c3, rfl, hown3, hb3⟩;
            have hb3' : Below w2.heap.size w2 w3 := ⟨hb3.os, hb3.tape, hb3.output, hb3.size, hb3.block⟩;
            have hk83 : w3.cell? ⟨ad.block, ad.off + 8, none⟩ = some (.int .u8 (kn : Int)) := (hb3'.cell (World.block_lt_of_cell? w2 _ hk8)).trans hk8;
            obtain ⟨fn, tm, asg, bod, hy, hR⟩ := HY.out k (kb, (rb.drop 9).take (num4 rb)) w3 #[.int .i64 ((pos : Int) + (9 + (num4 rb : Int))), .agg #[.int .i64 (kn : Int), .slice A3 (9 + num4 rb - 8 - 1) c3]] (HJ.out.1 _ _ _ hj2 (below_grown hb3')) HXK.out ⟨A3, c3, by rw [HS1.out, L9.out, HKN.out]; rfl, by rw [L9.out]; exact own_lower hown3 hnz2⟩)
        | (refine ⟨rfl, ?_⟩; refine hR.mono ?_; rintro e w4 h4; obtain ⟨b, rfl, hb4⟩ := two_ways h4; clear h4))
      all_goals
        clear hwk
        have hto : ∀ p v, p.block = ad.block → wr.cell? p = some v → w3.cell? p = some v := fun p v hp h =>
          (hb3'.cell (World.block_lt_of_cell? w2 _ (hkw p v (by rw [hp]; exact hne) h))).trans (hkw p v (by rw [hp]; exact hne) h)
        rcases hb4.out with ⟨rfl, hj4, hk4⟩ | ⟨rfl, hx4⟩
        · have hbx4 : frBox Bn (some X) (rb.drop (9 + num4 rb)) (c' - (9 + num4 rb)) w4 := (hk4.2 Bn hB).trans ((hb3'.block Bn (Box.lt hbx2)).trans hbx2)
          have hXb : X.block = ad.block := by rw [HX.out]; split <;> simp [add_blk]
          have hs4 : Sees w4 (some X) (u8s (rb.drop (9 + num4 rb))) := by
            have h1 : Sees wr (some X) (u8s (rb.drop (9 + num4 rb))) := by
              rw [HX.out, u8s_drop]
              split
              · rw [List.drop_of_length_le (by rw [u8s_length]; omega)]
                exact Sees.nil _ _
              · rw [Nat.mul_one]
                exact hsee.drop _
            intro j v hj'
            obtain ⟨ad', e, hc2⟩ := h1 j v hj'
            cases e
            refine ⟨_, rfl, ?_⟩
            rw [hk4.cell (by rw [add_blk, hXb]; exact hkb)]
            exact hto _ _ (by rw [add_blk, hXb]) hc2
          have hp2 := HP.out
          go_wp2
          go_roundw
          case rel =>
            refine ⟨k + 1, pos + (9 + num4 rb), some X, rb.drop (9 + num4 rb), c' - (9 + num4 rb), by go_num, (List.getElem?_eq_some_iff.1 HXK.out).1, ?_, HS1.out.symm, ?_, ?_, ?_, ?_, hbx4, hs4, hj4, ?_⟩
            · rw [List.length_drop]; omega
            · refine Lib.hid ?_
              have := HS.out
              rw [HSC.out] at this
              have h5 := congrArg List.tail this
              rw [List.tail_cons, List.tail_drop] at h5
              exact h5
            · rw [List.length_drop]; omega
            · simp only [maxLen]; omega
            · exact Lib.hid (fun a e _ => by cases e; exact ⟨by rw [hXb]; exact hne, by rw [hXb]; exact hkb⟩)
            · exact Nat.le_trans (Nat.le_trans hnz2 hb3'.size) hk4.1
          case measure => simp [intOf]; omega
        · go_wp2
          refine bodyPost_ret (results_none rfl _ _ _) rfl ?_
          exact ⟨⟨_, rfl⟩, .inr ⟨k + 1, (List.getElem?_eq_some_iff.1 HXK.out).1, hx4⟩⟩
end Go.Proofs.Ytfbcdlbcdaobcaa
