/-
  The reference's reader of bytes (hustingsref03.Reader).
-/
import Derived.Test.YtoongmoajnedlaaGreatRead
import Derived.BigQuiet
import Derived.Deep.LoopGhost
set_option linter.unusedVariables false
set_option linter.unusedSimpArgs false
namespace Go.Proofs.YtoongmoajnedlaaGreat
open Go.RowKit

/-- The reader in block g, over bytes in block r. -/
def RfAt (g r : Nat) (s : RS) (W : World) : Prop := ∃ (R : Option Addr) (n c at_ : Nat) (e : Int) (bs : List UInt8), W.heap[g]? = some (.cells #[.slice R n c, .int .i64 (at_ : Int), .int .i64 e] 272 (0, 0)) ∧ bs.length = n ∧ n ≤ c ∧ n ≤ 140737488355328 ∧ at_ ≤ n ∧ Sees W R (u8s bs) ∧ (∀ ad, R = some ad → 0 < n → ad.block = r) ∧ (0 < n → r ≠ g) ∧ ((e = 0 ∧ s = some (bs.drop at_)) ∨ (e ≠ 0 ∧ s = none))
theorem rf_cells {g : Nat} {W : World} {v0 v1 v2 : Value} (h : W.heap[g]? = some (.cells #[v0, v1, v2] 272 (0, 0))) : W.cell? ⟨g, 0, none⟩ = some v0 ∧ W.cell? ⟨g, 1, none⟩ = some v1 ∧ W.cell? ⟨g, 2, none⟩ = some v2 ∧ ∀ j, W.frozen? ⟨g, j, none⟩ = false := by
  refine ⟨?_, ?_, ?_, fun j => ?_⟩
  · rw [cell_of_row W g 0 _ _ _ h]; rfl
  · rw [cell_of_row W g 1 _ _ _ h]; rfl
  · rw [cell_of_row W g 2 _ _ _ h]; rfl
  · simp [World.frozen?, h]
theorem rleft_any (g : Nat) (R : Option Addr) (n c at_ : Nat) (w : World) (c0 : w.cell? ⟨g, 0, none⟩ = some (.slice R n c)) (c1 : w.cell? ⟨g, 1, none⟩ = some (.int .i64 (at_ : Int))) (hn : n ≤ 140737488355328) (ha : at_ ≤ n) :
    Calls Tryz.prog 204 #[.pointer (some ⟨g, 0, none⟩)] w fun e w' => e = .returned (.int .i64 ((n : Int) - (at_ : Int))) ∧ ∃ k, w' = w.drewN k := by
  have e1 : IntKind.i64.wrap ((n : Int) - (at_ : Int)) = (n : Int) - (at_ : Int) := IntWalk.i64_in _ (by omega)
  go_enter Tryz.func204, Tryz.ntmps204
  go_upto_region 1 with (fail)
  go_quiet (fail)
  go_wp2_with fail
  go_ret
  exact ⟨rfl, _, rfl⟩
def RetRf (g r : Nat) (s : RS) (w : World) (e : Ending) (w' : World) : Prop := e = .returned (.int .i64 ((rdN s).1 : Int)) ∧ RfAt g r (rdN s).2 w' ∧ Outside (· = g) w w'
/-- A fault is set, or not; bytes are taken. -/
theorem rf_set {g r n c at_ : Nat} {R : Option Addr} {bs : List UInt8} {w : World} (h : w.heap[g]? = some (.cells #[.slice R n c, .int .i64 (at_ : Int), .int .i64 0] 272 (0, 0))) (h1 : bs.length = n) (h2 : n ≤ c) (h3 : n ≤ 140737488355328) (h4 : Sees w R (u8s bs)) (h5 : ∀ ad, R = some ad → 0 < n → ad.block = r) (hr : 0 < n → r ≠ g) (ha : at_ ≤ n) (k : Nat) :
    (∀ v : Int, v ≠ 0 → RfAt g r none ((w.drewN k).setCell ⟨g, 2, none⟩ (.int .i64 v)) ∧ Outside (· = g) w ((w.drewN k).setCell ⟨g, 2, none⟩ (.int .i64 v))) ∧
    (∀ a : Nat, a ≤ n → RfAt g r (some (bs.drop a)) ((w.drewN k).setCell ⟨g, 1, none⟩ (.int .i64 (a : Int))) ∧ Outside (· = g) w ((w.drewN k).setCell ⟨g, 1, none⟩ (.int .i64 (a : Int)))) := by
  have hb : Below w.heap.size w (w.drewN k) := below_draws (Below.refl _ _) k
  have hgl : g < w.heap.size := (Array.getElem?_eq_some_iff.1 h).1
  have hW : (w.drewN k).heap[g]? = some (.cells #[.slice R n c, .int .i64 (at_ : Int), .int .i64 0] 272 (0, 0)) := (hb.block g hgl).trans h
  have key : ∀ (i : Nat) (u : Value), Sees ((w.drewN k).setCell ⟨g, i, none⟩ u) R (u8s bs) ∧ Outside (· = g) w ((w.drewN k).setCell ⟨g, i, none⟩ u) := by
    intro i u
    have ho : Outside (· = g) w ((w.drewN k).setCell ⟨g, i, none⟩ u) := (Outside.of_below hb).set _ _ (.inr rfl)
    refine ⟨fun j v hj => ?_, ho⟩
    obtain ⟨ad, e, hc⟩ := h4 j v hj
    have hn : 0 < n := by have := (List.getElem?_eq_some_iff.1 hj).1; rw [u8s_length] at this; omega
    refine ⟨ad, e, ?_⟩
    rw [← hc]
    exact World.cell?_of_block (ho.block _ (World.block_lt_of_cell? _ _ hc) (by rw [add_blk, h5 ad e hn]; exact hr hn))
  refine ⟨fun v hv => ⟨⟨R, n, c, at_, v, bs, ?_, h1, h2, h3, ha, (key 2 _).1, h5, hr, .inr ⟨hv, rfl⟩⟩, (key 2 _).2⟩, fun a ha2 => ⟨⟨R, n, c, a, 0, bs, ?_, h1, h2, h3, ha2, (key 1 _).1, h5, hr, .inl ⟨rfl, rfl⟩⟩, (key 1 _).2⟩⟩
  · simp [World.setCell, Array.getElem?_modify, h]
  · simp [World.setCell, Array.getElem?_modify, h]
theorem drew_of {w wr : World} (h : ∃ n, wr = w.drewN n) (m : Nat) : ∃ n, wr.drewN m = w.drewN n := by
  obtain ⟨n, rfl⟩ := h
  exact ⟨_, by rw [World.drewN_drewN]⟩
theorem take_getD {t : List UInt8} {x j : Nat} (h : j < x) (hx : x ≤ t.length) : (t.take x).getD j 0 = t.getD j 0 := by
  rw [List.getD_eq_getElem?_getD, List.getD_eq_getElem?_getD, List.getElem?_take_of_lt h]
set_option maxRecDepth 16384 in
set_option maxHeartbeats 8000000 in
theorem rnumber_any (g r : Nat) (s : RS) (w : World) (h : RfAt g r s w) : Calls Tryz.prog 189 #[.pointer (some ⟨g, 0, none⟩)] w (RetRf g r s w) := by
  obtain ⟨R, n, c, at_, e, bs, h0, h1, h2, h3, ha, h4, h5, hrg, h6⟩ := h
  obtain ⟨c0, c1, c2, cf⟩ := rf_cells h0
  have f1 := cf 1
  have f2 := cf 2
  have HL := Lib.hid (fun W' (hW' : ∃ k, W' = w.drewN k) => (rleft_any g R n c at_ W' (by obtain ⟨k, rfl⟩ := hW'; exact ((below_draws (Below.refl _ _) k).cell (World.block_lt_of_cell? _ _ c0)).trans c0) (by obtain ⟨k, rfl⟩ := hW'; exact ((below_draws (Below.refl _ _) k).cell (World.block_lt_of_cell? _ _ c1)).trans c1) h3 ha).mono (fun e w' (h : e = .returned (.int .i64 ((n : Int) - (at_ : Int))) ∧ ∃ k, w' = W'.drewN k) => (⟨h.1, by obtain ⟨_, k, rfl⟩ := h; exact drew_of hW' k⟩ : e = .returned (.int .i64 ((n : Int) - (at_ : Int))) ∧ ∃ k, w' = w.drewN k)))
  rcases h6 with ⟨rfl, rfl⟩ | ⟨he, rfl⟩
  · have HF := Lib.hid (fun k => rf_set h0 h1 h2 h3 h4 h5 hrg ha k)
    have H1 := Lib.hid h1
    have H4 := Lib.hid h4
    clear h0 h1 h4 h5 cf hrg
    rcases Nat.eq_or_lt_of_le ha with rfl | hlt
    · have HR : Hid (rdN (some (bs.drop at_)) = (0, none)) := Lib.hid (by rw [List.drop_of_length_le (by rw [H1.out]; exact Nat.le_refl _)]; rfl)
      unfold RetRf
      rw [HR.out]
      have e9 : (at_ : Int) - (at_ : Int) = 0 := by omega
      rw [e9] at HL
      go_enter Tryz.func189, Tryz.ntmps189
      go_wp2_with (first
        | (go_at_call 204; refine (HL.out _ ⟨0, rfl⟩).mono ?_; rintro e1 w1 ⟨rfl, k1, rfl⟩)
        | fail)
      go_ret
      exact ⟨rfl, (HF.out _).1 20 (by decide)⟩
    · obtain ⟨hd, hhd⟩ : ∃ hd, bs[at_]'(by rw [H1.out]; exact hlt) = hd := ⟨_, rfl⟩
      obtain ⟨t, ht⟩ : ∃ t, bs.drop (at_ + 1) = t := ⟨_, rfl⟩
      have hdr : bs.drop at_ = hd :: t := by rw [List.drop_eq_getElem_cons (by rw [H1.out]; exact hlt), hhd, ht]
      obtain ⟨ad, rfl, hc0⟩ := u8_at H4.out at_ (by rw [H1.out]; exact hlt)
      rw [hhd] at hc0
      obtain ⟨x, hx⟩ : ∃ x, hd.toNat = x := ⟨_, rfl⟩
      rw [hx] at hc0
      have hx256 : x < 256 := by have := hd.toNat_lt; omega
      obtain ⟨lf, hlf⟩ : ∃ lf : Nat, n - at_ = lf := ⟨_, rfl⟩
      have e9 : (n : Int) - (at_ : Int) = (lf : Int) := by omega
      rw [e9] at HL
      have hlf0 : ¬ (lf : Int) < 1 := by omega
      have HTL : Hid (t.length = lf - 1) := Lib.hid (by rw [← ht, List.length_drop, H1.out]; omega)
      have HT := Lib.hid ht
      have HX := Lib.hid hx
      have HLF := Lib.hid hlf
      rw [hdr]
      clear hdr ht hx hhd e9 hlf
      by_cases g1 : 6 < x
      · have g1i : (6 : Int) < (x : Int) := by omega
        have HR : Hid (rdN (some (hd :: t)) = (0, none)) := Lib.hid (by unfold rdN getN; dsimp only; rw [HX.out, if_pos g1])
        unfold RetRf
        rw [HR.out]
        go_enter Tryz.func189, Tryz.ntmps189
        go_upto_region 6 with (first
          | (go_at_call 204; refine (HL.out _ (by first | exact ⟨0, rfl⟩ | exact ⟨_, rfl⟩)).mono ?_; rintro e1 w1 ⟨rfl, k1, rfl⟩)
          | fail)
        go_quiet (fail)
        go_wp2_with fail
        go_ret
        exact ⟨rfl, (HF.out _).1 21 (by decide)⟩
      · have g1i : ¬ (6 : Int) < (x : Int) := by omega
        by_cases g2 : lf ≤ x
        · have g2i : (lf : Int) < 1 + (x : Int) := by omega
          have HR : Hid (rdN (some (hd :: t)) = (0, none)) := Lib.hid (by unfold rdN getN; dsimp only; rw [HX.out, if_neg g1, if_pos (by have := HTL.out; omega)])
          unfold RetRf
          rw [HR.out]
          go_enter Tryz.func189, Tryz.ntmps189
          go_upto_region 6 with (first
            | (go_at_call 204; refine (HL.out _ (by first | exact ⟨0, rfl⟩ | exact ⟨_, rfl⟩)).mono ?_; rintro e1 w1 ⟨rfl, k1, rfl⟩)
            | fail)
          go_quiet (fail)
          go_wp2_with (first
            | (go_at_call 204; refine (HL.out _ (by first | exact ⟨0, rfl⟩ | exact ⟨_, rfl⟩)).mono ?_; rintro e1 w1 ⟨rfl, k1, rfl⟩)
            | fail)
          go_ret
          exact ⟨rfl, (HF.out _).1 20 (by decide)⟩
        · have g2i : ¬ (lf : Int) < 1 + (x : Int) := by omega
          have hax : at_ + x < n := by have := HLF.out; omega
          obtain ⟨ad', e', hcx⟩ := u8_at H4.out (at_ + x) (by rw [H1.out]; exact hax)
          cases e'
          obtain ⟨lb, hlb⟩ : ∃ lb, (bs[at_ + x]'(by rw [H1.out]; exact hax)).toNat = lb := ⟨_, rfl⟩
          rw [hlb] at hcx
          have HLB : Hid (0 < x → (t.getD (x - 1) 0).toNat = lb) := Lib.hid (fun hp => by
            rw [← hlb, ← HT.out, List.getD_eq_getElem?_getD, List.getElem?_drop, List.getElem?_eq_getElem (by rw [H1.out]; omega)]
            simp only [Option.getD_some, show at_ + 1 + (x - 1) = at_ + x from by omega])
          clear hlb
          have hcx' : w.cell? (ad.add ((at_ : Int) + (x : Int)).toNat) = some (.int .u8 (lb : Int)) := by rw [show ((at_ : Int) + (x : Int)).toNat = at_ + x from by omega]; exact hcx
          by_cases g3 : 0 < x ∧ lb = 0
          · obtain ⟨g3a, rfl⟩ := g3
            have g3i : (0 : Int) < (x : Int) := by omega
            have HR : Hid (rdN (some (hd :: t)) = (0, none)) := Lib.hid (by
              unfold rdN getN
              dsimp only
              rw [HX.out, if_neg g1, if_neg (by have := HTL.out; omega), if_pos ⟨g3a, UInt8.toNat_inj.1 (by rw [HLB.out g3a]; rfl)⟩])
            unfold RetRf
            rw [HR.out]
            go_enter Tryz.func189, Tryz.ntmps189
            go_upto_region 6 with (first
              | (go_at_call 204; refine (HL.out _ (by first | exact ⟨0, rfl⟩ | exact ⟨_, rfl⟩)).mono ?_; rintro e1 w1 ⟨rfl, k1, rfl⟩)
              | fail)
            go_quiet (fail)
            go_upto_region 13 with (first
              | (go_at_call 204; refine (HL.out _ (by first | exact ⟨0, rfl⟩ | exact ⟨_, rfl⟩)).mono ?_; rintro e1 w1 ⟨rfl, k1, rfl⟩)
              | fail)
            go_quiet (fail)
            go_wp2_with fail
            go_ret
            exact ⟨rfl, (HF.out _).1 21 (by decide)⟩
          · have HR : Hid (rdN (some (hd :: t)) = (valD (t.take x), some (t.drop x))) := Lib.hid (by
              unfold rdN getN
              dsimp only
              rw [HX.out, if_neg g1, if_neg (by have := HTL.out; omega), if_neg]
              rintro ⟨k1, k2⟩
              exact g3 ⟨k1, by rw [← HLB.out k1, k2]; rfl⟩)
            obtain ⟨l, hl⟩ : ∃ l, t.take x = l := ⟨_, rfl⟩
            have hll : l.length = x := by rw [← hl, List.length_take]; have := HTL.out; omega
            have HLL := Lib.hid hll
            have HDD : Hid (t.drop x = bs.drop (at_ + 1 + x)) := Lib.hid (by rw [← HT.out, List.drop_drop])
            have HGET : Hid (∀ j, j < x → ∃ h : at_ + (x - j) < bs.length, (bs[at_ + (x - j)]'h) = l.getD (l.length - 1 - j) 0) := Lib.hid (fun j hj => ⟨by rw [H1.out]; omega, by
              have e5 : l.getD (l.length - 1 - j) 0 = t.getD (x - 1 - j) 0 := by rw [hll, ← hl, take_getD (by omega) (by have := HTL.out; omega)]
              have e6 : t.getD (x - 1 - j) 0 = bs.getD (at_ + (x - j)) 0 := by rw [← HT.out, List.getD_eq_getElem?_getD, List.getElem?_drop, show at_ + 1 + (x - 1 - j) = at_ + (x - j) from by omega, ← List.getD_eq_getElem?_getD]
              rw [e5, e6, List.getD_eq_getElem?_getD, List.getElem?_eq_getElem (by rw [H1.out]; omega)]
              rfl⟩)
            rw [hl] at HR
            clear hll hl
            unfold RetRf
            rw [HR.out]
            go_enter Tryz.func189, Tryz.ntmps189
            go_upto_region 6 with (first
              | (go_at_call 204; refine (HL.out _ (by first | exact ⟨0, rfl⟩ | exact ⟨_, rfl⟩)).mono ?_; rintro e1 w1 ⟨rfl, k1, rfl⟩)
              | fail)
            go_quiet (fail)
            go_upto_region 13 with (first
              | (go_at_call 204; refine (HL.out _ (by first | exact ⟨0, rfl⟩ | exact ⟨_, rfl⟩)).mono ?_; rintro e1 w1 ⟨rfl, k1, rfl⟩)
              | fail)
            go_cut [57] from 58 to 92 (fun s57 wc => s57 = .bool false ∧ ∃ k, wc = w.drewN k)
            case first =>
              by_cases k0 : 0 < x
              · have k0i : (0 : Int) < (x : Int) := by omega
                have k1 : ((lb : Int) == 0) = false := by simp; omega
                go_quiet (fail)
                go_wp2_with fail
                go_meet
                case rel => exact ⟨rfl, by first | exact ⟨_, rfl⟩ | exact drew_of ⟨_, rfl⟩ _ | exact drew_of (drew_of ⟨_, rfl⟩ _) _⟩
              · have k0i : ¬ (0 : Int) < (x : Int) := by omega
                have k0j : decide ((0 : Int) < (x : Int)) = false := decide_eq_false k0i
                go_quiet (fail)
                go_wp2_with fail
                go_meet
                case rel => exact ⟨rfl, by first | exact ⟨_, rfl⟩ | exact drew_of ⟨_, rfl⟩ _ | exact drew_of (drew_of ⟨_, rfl⟩ _) _⟩
            case rest =>
              obtain ⟨rfl, k9, rfl⟩ := hcut
              clear hcx hcx' hc0 HL HLB
              go_wp2_with fail
              go_loopw [4, 5] (fun s4 s5 wr => ∃ j : Nat, j ≤ x ∧ s4 = .int .i64 (accN l j : Int) ∧ s5 = .int .i64 ((x - j : Nat) : Int) ∧ ∃ k, wr = w.drewN k) (fun _ s5 _ => (intOf s5).toNat)
              case atStart =>
                refine ⟨0, Nat.zero_le _, ?_, rfl, _, rfl⟩
                unfold accN
                rw [Nat.sub_zero, List.drop_length]
                rfl
              case round =>
                obtain ⟨j, hj, rfl, rfl, k8, rfl⟩ := hrel
                by_cases hjx : j < x
                · obtain ⟨hlt9, hget⟩ := HGET.out j hjx
                  obtain ⟨ad9, e9, hc9⟩ := u8_at H4.out _ hlt9
                  cases e9
                  rw [hget] at hc9
                  have hst := accN_step (l := l) (j := j) (by rw [HLL.out]; exact hjx)
                  have hac := accN_lt2 (l := l) (by rw [HLL.out]; omega) (j := j) (by rw [HLL.out]; exact hjx)
                  obtain ⟨ac, hace⟩ : ∃ ac, accN l j = ac := ⟨_, rfl⟩
                  obtain ⟨bv, hbv⟩ : ∃ bv, (l.getD (l.length - 1 - j) 0).toNat = bv := ⟨_, rfl⟩
                  have hbv2 : bv < 256 := by rw [← hbv]; exact (l.getD (l.length - 1 - j) 0).toNat_lt
                  rw [hace] at hst hac
                  try rw [hace]
                  rw [hbv] at hst hc9
                  obtain ⟨i, hi⟩ : ∃ i, x - j = i := ⟨_, rfl⟩
                  rw [hi] at hc9 hlt9
                  try rw [hi]
                  have hi1 : (1 : Int) ≤ (i : Int) := by omega
                  have hix : i ≤ x := by omega
                  have hc9' : w.cell? (ad.add ((at_ : Int) + (i : Int)).toNat) = some (.int .u8 (bv : Int)) := by rw [show ((at_ : Int) + (i : Int)).toNat = at_ + i from by omega]; exact hc9
                  have hor := i64_or8 ac bv (by omega) hbv2
                  have HST := Lib.hid hst
                  have HI := Lib.hid hi
                  clear hst hi hace hbv hget
                  go_upto_region 20 with (fail)
                  go_quiet (fail)
                  go_wp2_with fail
                  go_roundw
                  case rel =>
                    refine ⟨j + 1, hjx, ?_, ?_, _, rfl⟩
                    · rw [HST.out]
                      first | rfl | rw [hor]
                    · have := HI.out
                      congr 1
                      omega
                  case measure => simp [intOf] <;> omega
                · obtain rfl : j = x := by omega
                  have e0 : ((j - j : Nat) : Int) = 0 := by omega
                  rw [e0]
                  have HV : Hid (accN l j = valD l) := Lib.hid (by have := accN_all l; rw [HLL.out] at this; exact this)
                  go_wp2_with fail
                  go_ret
                  have h8 := (HF.out k8).2 (at_ + 1 + j) (by omega)
                  rw [HV.out, HDD.out]
                  refine ⟨rfl, ?_⟩
                  have e7 : ((at_ + 1 + j : Nat) : Int) = (at_ : Int) + 1 + (j : Int) := by omega
                  rw [e7] at h8
                  exact h8
  · have HRD : Hid (RfAt g r none w) := Lib.hid ⟨R, n, c, at_, e, bs, h0, h1, h2, h3, ha, h4, h5, hrg, .inr ⟨he, rfl⟩⟩
    have he' : (e == 0) = false := by simpa using he
    clear h0 h1 h4 h5 cf
    go_enter Tryz.func189, Tryz.ntmps189
    go_wp2_with fail
    go_ret
    exact ⟨rfl, HRD.out, Outside.refl _ _⟩
end Go.Proofs.YtoongmoajnedlaaGreat
