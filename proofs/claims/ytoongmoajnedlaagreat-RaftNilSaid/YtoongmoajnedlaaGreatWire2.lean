/-
  Package wire: parts joined (slices.Grow, slices.Concat, Join), bytes with their number.
-/
import Derived.Test.YtoongmoajnedlaaGreatWire1
set_option linter.unusedVariables false
set_option linter.unusedSimpArgs false
namespace Go.Proofs.YtoongmoajnedlaaGreat
open Go.RowKit

theorem infoBy : (Tryz.prog.info? 29).map (fun i => (i.zero, i.size, i.bytes)) = some (some (.slice none 0 0), 1, 24) := by kernel_rfl
def RetGrow (w : World) (e : Ending) (w' : World) : Prop := ∃ A c, e = .returned (.slice A 0 c) ∧ w'.ownsRow w.heap.size 5 1 (.slice A 0 c) 0 [] ∧ Below w.heap.size w w'
set_option maxHeartbeats 1000000 in
theorem grow_any (n : Nat) (w : World) (hn : n ≤ 1099511627776) : Calls Tryz.prog 180 #[.slice none 0 0, .int .i64 (n : Int)] w (RetGrow w) := by
  obtain ⟨i0, hi, hz0, hz1, hz2⟩ := info_three infoU8
  by_cases h0 : 0 < n
  · have h0i : (0 : Int) < (n : Int) := by omega
    have hr := fun W => Lib.run_append_nil_zeros (P := Tryz.prog) W 29 3 29 5 i0 (.int .u8 0) .i64 .i64 Tryz.underlying29 Tryz.underlying3 hi hz0 n h0 (by omega) (by omega) (by rw [hz2]; omega)
    have HR := Lib.hid hr
    clear hr hi hz0 hz1 hz2
    go_enter Tryz.func180, Tryz.ntmps180
    go_wp2_with (first
      | (at_builtin; refine Lib.wpList_append_run _ rfl _ _ _ _ rfl _ _ rfl rfl _ _ (HR.out _) ?_)
      | fail)
    go_ret
    have hcap := grownCap_ge w n 0 5
    refine ⟨_, _, rfl, ⟨rfl, .inr ⟨w.heap.size, grownCap w n 0 5, _, rfl, Nat.le_refl _, heap_alloc_new _ _, Nat.zero_le _, grownCap_le_maxLen _ _ _ _ (by simp only [maxLen]; omega), ?_, by simp⟩⟩, ((Below.refl _ _).alloc (Nat.le_refl _) _).drew⟩
    simp only [Array.size_append, Builtin.zeroCells, Array.size_map, Array.size_range, List.size_toArray, List.length_cons, List.length_nil]
    omega
  · obtain rfl : n = 0 := by omega
    go_enter Tryz.func180, Tryz.ntmps180
    go_wp2_with fail
    go_ret
    exact ⟨none, 0, rfl, ⟨rfl, .inl ⟨rfl, rfl⟩⟩, Below.refl _ _⟩
/-- Parts that lie in a row. -/
def PartsAt (w : World) (A : Option Addr) (ps : List (List UInt8)) : Prop := ∀ (k : Nat) (p : List UInt8), ps[k]? = some p → ∃ ad A1 c1, A = some ad ∧ w.cell? (ad.add k) = some (.slice A1 p.length c1) ∧ Sees w A1 (u8s p)
theorem PartsAt.below {w w' : World} {A : Option Addr} {ps : List (List UInt8)} (h : PartsAt w A ps) (hb : Below w.heap.size w w') : PartsAt w' A ps := fun k p hk => by
  obtain ⟨ad, A1, c1, e, hc, hs⟩ := h k p hk
  exact ⟨ad, A1, c1, e, (hb.cell (World.block_lt_of_cell? _ _ hc)).trans hc, hs.below hb⟩
def sumL : List (List UInt8) → Nat
  | [] => 0
  | p :: r => p.length + sumL r
theorem sumL_append : ∀ (a b : List (List UInt8)), sumL (a ++ b) = sumL a + sumL b
  | [], b => by simp [sumL]
  | p :: r, b => by
    have := sumL_append r b
    simp only [List.cons_append, sumL]
    omega
theorem sumL_take {ps : List (List UInt8)} {k : Nat} (hk : k < ps.length) : sumL (ps.take (k + 1)) = sumL (ps.take k) + ps[k].length := by
  rw [List.take_succ_eq_append_getElem hk, sumL_append]
  rfl
theorem sumL_le (ps : List (List UInt8)) (k : Nat) : sumL (ps.take k) ≤ sumL ps := by
  have : sumL ps = sumL (ps.take k) + sumL (ps.drop k) := by rw [← sumL_append, List.take_append_drop]
  omega
theorem flatten_sum : ∀ ps : List (List UInt8), ps.flatten.length = sumL ps
  | [] => rfl
  | p :: r => by
    have := flatten_sum r
    simp only [List.flatten_cons, List.length_append, sumL]
    omega
set_option maxHeartbeats 2000000 in
theorem concat_any (A : Option Addr) (ps : List (List UInt8)) (m c : Nat) (w : World) (hm : ps.length = m) (h : PartsAt w A ps) (hm2 : m ≤ 1000000) (ht : sumL ps ≤ 1099511627776) :
    Calls Tryz.prog 156 #[.slice A m c] w (RetBy ps.flatten w) := by
  have H := Lib.hid h
  have HM := Lib.hid hm
  have HT := Lib.hid ht
  clear h hm ht
  go_enter Tryz.func156, Tryz.ntmps156
  go_wp2_with fail
  go_loopw [3, 11] (fun s3 s11 wr => ∃ (k s : Nat), s11 = .int .i64 (k : Int) ∧ s3 = .int .i64 (s : Int) ∧ k ≤ m ∧ s = sumL (ps.take k) ∧ w = wr) (fun _ s11 _ => m - (intOf s11).toNat)
  case atStart => exact ⟨0, 0, rfl, rfl, Nat.zero_le _, rfl, rfl⟩
  case round =>
    obtain ⟨k, s, rfl, rfl, hk, hs, rfl⟩ := hrel
    have hsb : s ≤ 1099511627776 := by rw [hs]; exact Nat.le_trans (sumL_le ps k) HT.out
    have HS := Lib.hid hs
    clear hs
    by_cases hlt : k < m
    · have hki : (k : Int) < (m : Int) := by omega
      have hkp : k < ps.length := by rw [HM.out]; exact hlt
      obtain ⟨ad, A1, c1, rfl, hc, hs3⟩ := H.out k _ (List.getElem?_eq_getElem hkp)
      obtain ⟨q, hq⟩ : ∃ q, ps[k].length = q := ⟨_, rfl⟩
      rw [hq] at hc
      have HNX : Hid (s + q = sumL (ps.take (k + 1))) := Lib.hid (by rw [sumL_take hkp, ← HS.out, hq])
      have hsq : s + q ≤ 1099511627776 := by rw [HNX.out]; exact Nat.le_trans (sumL_le ps _) HT.out
      have hneg : ¬ ((s : Int) + (q : Int) < 0) := by omega
      clear hq hs3 hkp
      go_wp2_with fail
      go_roundw
      case rel => exact ⟨k + 1, s + q, by go_num, by go_num, hlt, HNX.out, by first | rfl | trivial⟩
      case measure => simp [intOf] <;> omega
    · have hki : ¬ (k : Int) < (m : Int) := by omega
      have hgr := grow_any s w hsb
      have HGR := Lib.hid hgr
      clear hgr
      go_wp2_with (first
        | (go_at_call 180; refine HGR.out.mono ?_; rintro e w1 ⟨A1, c1, rfl, hown1, hb1⟩; have HST : Hid (∃ (j : Nat) (bs : List UInt8) (A2 : Option Addr) (n2 c2 : Nat), Value.int .i64 0 = .int .i64 (j : Int) ∧ Value.slice A1 0 c1 = .slice A2 n2 c2 ∧ j ≤ m ∧ bs = (ps.take j).flatten ∧ bs.length = n2 ∧ w1.ownsRow w.heap.size 5 1 (.slice A2 n2 c2) n2 (u8s bs) ∧ Below w.heap.size w w1) := Lib.hid ⟨0, [], A1, 0, c1, rfl, rfl, Nat.zero_le _, rfl, rfl, hown1, hb1⟩; clear hown1 hb1)
        | fail)
      go_loopw [6, 27] (fun s6 s27 wr => ∃ (j : Nat) (bs : List UInt8) (A2 : Option Addr) (n2 c2 : Nat), s27 = .int .i64 (j : Int) ∧ s6 = .slice A2 n2 c2 ∧ j ≤ m ∧ bs = (ps.take j).flatten ∧ bs.length = n2 ∧ wr.ownsRow w.heap.size 5 1 (.slice A2 n2 c2) n2 (u8s bs) ∧ Below w.heap.size w wr) (fun _ s27 _ => m - (intOf s27).toNat)
      case atStart => exact HST.out
      case round =>
        obtain ⟨j, bs, A2, n2, c2, rfl, rfl, hj, hbs, hbl, hown, hb⟩ := hrel
        have HOWN := Lib.hid hown
        have HB := Lib.hid hb
        have HBL := Lib.hid hbl
        have hn2 : n2 ≤ 1099511627776 := by rw [← hbl, hbs, flatten_sum]; exact Nat.le_trans (sumL_le ps j) HT.out
        have HBS := Lib.hid hbs
        clear HST hown hb hbl hbs
        by_cases hlt2 : j < m
        · have hji : (j : Int) < (m : Int) := by omega
          have hjp : j < ps.length := by rw [HM.out]; exact hlt2
          obtain ⟨ad, A3, c3, rfl, hc, hs3⟩ := (H.out.below HB.out) j _ (List.getElem?_eq_getElem hjp)
          obtain ⟨q, hq⟩ : ∃ q, ps[j].length = q := ⟨_, rfl⟩
          rw [hq] at hc
          obtain ⟨p, hp⟩ : ∃ p, ps[j] = p := ⟨_, rfl⟩
          rw [hp] at hs3 hq
          have HS3 := Lib.hid hs3
          have HPL : Hid ((u8s p).length = q * 1) := Lib.hid (by rw [u8s_length, hq, Nat.mul_one])
          have HNX : Hid (bs ++ p = (ps.take (j + 1)).flatten) := Lib.hid (by rw [List.take_succ_eq_append_getElem hjp, hp, HBS.out]; simp)
          have HNL : Hid ((bs ++ p).length = n2 + q) := Lib.hid (by rw [List.length_append, HBL.out, hq])
          have hnq : n2 + q ≤ 1099511627776 := by rw [← HNL.out, HNX.out, flatten_sum]; exact Nat.le_trans (sumL_le ps _) HT.out
          clear hs3 hp hq hjp
          go_wp2_with (first
            | (at_builtin; refine wpList_append_sees rfl (.tmp 31) (.tmp 32) 29 rfl w.heap.size 5 (.int .u8 0) 1 1 Tryz.underlying29 infoU8 rfl (by decide) (.slice A2 n2 c2) n2 (u8s bs) rfl HOWN.out A3 q c3 (u8s p) rfl HPL.out HS3.out (u8s_one _) (by simp only [maxLen]; omega) (by omega) HB.out.size ?_; intro A4 c4 w4 hown4 hg4 hat4; have HOWN4 := Lib.hid hown4; have HB4 := Lib.hid (below_grown_own HB.out HB.out.size HOWN.out (Nat.le_refl _) hg4); clear hown4 hg4 hat4)
            | fail)
          go_roundw
          case rel =>
            refine ⟨j + 1, bs ++ p, A4, n2 + q, c4, by go_num, rfl, hlt2, HNX.out, HNL.out, ?_, HB4.out⟩
            rw [u8s_append]
            exact HOWN4.out
          case measure => simp [intOf] <;> omega
        · have hji : ¬ (j : Int) < (m : Int) := by omega
          have HEQ : Hid (bs = ps.flatten) := Lib.hid (by rw [HBS.out, show j = ps.length by rw [HM.out]; omega, List.take_length])
          go_wp2_with fail
          go_ret
          obtain ⟨_, h2, _, h4⟩ := sees_own' HOWN.out
          rw [← HEQ.out]
          exact ⟨A2, c2, by rw [HBL.out]; rfl, by rw [HBL.out]; exact h2, h4, HB.out⟩
theorem join_any (A : Option Addr) (ps : List (List UInt8)) (m c : Nat) (w : World) (hm : ps.length = m) (h : PartsAt w A ps) (hm2 : m ≤ 1000000) (ht : sumL ps ≤ 1099511627776) :
    Calls Tryz.prog 107 #[.slice A m c] w (RetBy ps.flatten w) := by
  have HC := Lib.hid (concat_any A ps m c w hm h hm2 ht)
  obtain ⟨bs, hbs⟩ : ∃ bs, ps.flatten = bs := ⟨_, rfl⟩
  rw [hbs] at HC ⊢
  clear hm h hm2 ht hbs
  go_enter Tryz.func107, Tryz.ntmps107
  go_wp2_with (first
    | (go_at_call 156; refine HC.out.mono ?_; rintro e w1 ⟨A1, c1, rfl, h1, h2, h3⟩)
    | fail)
  go_ret
  exact ⟨A1, c1, rfl, h1, h2, h3⟩
theorem encN_len {x : Nat} (hx : x < 9223372036854775808) : (encN x).length ≤ 9 := by
  have := digs_len 8 x (by simpa using Nat.lt_of_lt_of_le hx (by decide))
  unfold encN
  rw [List.length_cons]
  omega
/-- Two parts in a new row. -/
theorem parts_lit {W : World} {ps : List (List UInt8)} {vs : List Value} (h : vs.length = ps.length) (hv : ∀ (k : Nat) (p : List UInt8), ps[k]? = some p → ∃ A1 c1, vs[k]? = some (Value.slice A1 p.length c1) ∧ Sees (W.alloc (.cells vs.toArray 29)) A1 (u8s p)) : PartsAt (W.alloc (.cells vs.toArray 29)) (some ⟨W.heap.size, 0, none⟩) ps := fun k p hk => by
  obtain ⟨A1, c1, h1, h2⟩ := hv k p hk
  obtain ⟨ad, e, hc⟩ := sees_new W vs.toArray 29 k _ h1
  exact ⟨ad, A1, c1, e, hc, h2⟩
/-- PutBytes: bytes that are not too many, with their number. -/
def encB (bs : List UInt8) : List UInt8 := encN bs.length ++ bs
set_option maxHeartbeats 1000000 in
theorem putbytes_any (A : Option Addr) (bs : List UInt8) (q c : Nat) (w : World) (hq : bs.length = q) (hs : Sees w A (u8s bs)) (hl : q ≤ 1048576) :
    Calls Tryz.prog 150 #[.slice A q c] w fun e w' => ∃ A1 n1 c1, e = .returned (.tuple #[.slice A1 n1 c1, .int .i64 0]) ∧ n1 = (encB bs).length ∧ Sees w' A1 (u8s (encB bs)) ∧ Below w.heap.size w w' := by
  have HN := Lib.hid (number_any q w (by omega))
  have HQ := Lib.hid hq
  have HS := Lib.hid hs
  have HEL := Lib.hid (encN_len (x := q) (by omega))
  have HSUM : Hid (sumL [encN q, bs] ≤ 1099511627776) := Lib.hid (by simp only [sumL]; have := HEL.out; omega)
  have HEB : Hid ([encN q, bs].flatten = encB bs) := Lib.hid (by unfold encB; rw [hq]; simp)
  obtain ⟨en, hen⟩ : ∃ en, encN q = en := ⟨_, rfl⟩
  rw [hen] at HN HEL HSUM HEB
  clear hq hs hen
  have hli : ¬ (1048576 : Int) < (q : Int) := by omega
  go_enter Tryz.func150, Tryz.ntmps150
  go_wp2_with (first
    | (go_at_call 136; refine HN.out.mono ?_; rintro e w1 ⟨A1, c1, rfl, hc1, hs1, hb1⟩; have HB1 := Lib.hid hb1; have HJ := Lib.hid (join_any (some ⟨w1.heap.size, 0, none⟩) [en, bs] 2 2 (w1.alloc (.cells #[.slice A1 en.length c1, .slice A q c] 29)) rfl (parts_lit (vs := [Value.slice A1 en.length c1, Value.slice A q c]) rfl (fun k p hk => by
        have hb2 : Below w1.heap.size w1 (w1.alloc (.cells #[.slice A1 en.length c1, .slice A q c] 29)) := (Below.refl _ _).alloc (Nat.le_refl _) _
        match k, hk with
        | 0, hk => cases hk; exact ⟨A1, c1, rfl, hs1.below hb2⟩
        | 1, hk => cases hk; exact ⟨A, c, by rw [HQ.out]; rfl, (HS.out.below hb1).below hb2⟩)) (by decide) HSUM.out); clear hc1 hs1 hb1)
    | (go_at_call 107; refine HJ.out.mono ?_; rintro e w2 ⟨A2, c2, rfl, hc2, hs2, hb2⟩; rw [HEB.out]; rw [HEB.out] at hs2 hc2; have HS2 := Lib.hid hs2; have HB2 := Lib.hid (below_step (HB1.out.alloc HB1.out.size _) (by have := HB1.out.size; simp; omega) hb2); clear hc2 hs2 hb2)
    | fail)
  go_ret2
  exact ⟨A2, _, c2, rfl, rfl, HS2.out, HB2.out⟩
end Go.Proofs.YtoongmoajnedlaaGreat
