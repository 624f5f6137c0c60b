/-
  The law package of layer 2: what must come, and FrameSums.
-/
import Derived.Test.YtfbcdlbcdaobcaaScan2
set_option linter.unusedVariables false
set_option linter.unusedSimpArgs false
namespace Go.Proofs.Ytfbcdlbcdaobcaa
open Go.RowKit

theorem num_any (v : Value) (w : World) : Calls Try.prog 20 #[v] w fun e w' => e = .returned v ∧ w = w' := by
  go_enter Try.func20, Try.ntmps20
  go_wp2
  go_ret
  exact ⟨rfl, rfl⟩

theorem knows_cell {w : World} {g : Nat} (h : Sees w (some ⟨g, 0, none⟩) (u8s (frameB 1 []))) : w.cell? ⟨g, 8, none⟩ = some (.int .u8 1) := by
  obtain ⟨ad, e, hc⟩ := h 8 (.int .u8 1) (by simp [u8s, u8v, frameB, four])
  cases e
  rwa [add_base] at hc
/-- Scan of the least frame. -/
def RetLeast (w : World) (e : Ending) (w' : World) : Prop :=
  ∃ g c, e = .returned (.tuple #[.slice (some ⟨g, 0, none⟩) 1 c, .int .i64 9, .bool true]) ∧ w'.cell? ⟨g, 0, none⟩ = some (.int .i64 1) ∧ Below w.heap.size w w'
theorem scan_least (A : Option Addr) (c : Nat) (w : World) (hc : 9 ≤ c) (hm : c ≤ maxLen) (h : Sees w A (u8s (frameB 1 []))) : Calls Try.prog 14 #[.slice A 9 c] w (RetLeast w) := by
  have hsc : scan (frameB 1 []) = [(1, [])] := by
    have := scan_enc [(1, [])] [] (by simp)
    simpa [enc, scan_none (show one [] = none from rfl)] using this
  have hl : (frameB 1 []).length = 9 := frameB_len _ _
  have h0 := scan_any A (frameB 1 []) c w (by omega) hm (by omega) h
  rw [hl] at h0
  refine h0.mono fun e w' ⟨A2, c2, cells, he, ho, hr, hb⟩ => ?_
  rw [hsc] at he ho hr
  rw [hl] at he
  obtain ⟨_, g, rfl, _, _⟩ := own_pos ho (by simp)
  refine ⟨g, c2, he, ?_, hb⟩
  obtain ⟨cs, hl2, ⟨A', c', rfl, _⟩, hget⟩ := hr.get (j := 0) (x := (1, [])) rfl
  obtain ⟨ad, e', hc'⟩ := (sees_own' ho).2.2.2 0 _ (hget 0 _ rfl)
  cases e'
  rw [add_base] at hc'
  exact hc'
set_option maxHeartbeats 2000000 in
theorem knows_yes (w : World) : Calls Try.prog 13 #[] w (RetBool w true) := by
  go_enter Try.func13, Try.ntmps13
  go_wp2_with (first
    | (go_at_call 18; go_loud (refine (put_ok none 1 [] 0 _ (Nat.le_refl _) (by simp) (Sees.nil _ _)).mono ?_); rintro e w1 ⟨A1, c1, rfl, hown1, hb1⟩; obtain ⟨hc1, g1, rfl, hg1, hs1⟩ := own_pos hown1 (by simp); have hm1 := (sees_own' hown1).2.2.1; have hse1 := (sees_own' hown1).2.2.2; have k1 : w1.cell? ⟨g1, 8, none⟩ = some (.int .u8 1) := knows_cell hse1)
    | (go_at_call 14; go_loud (refine (scan_least (some ⟨g1, 0, none⟩) c1 _ (by exact hc1) hm1 hse1).mono ?_); rintro e w2 ⟨g2, c2, rfl, hcell2, hb2⟩; have k2 := (hb2.cell (p := ⟨g1, 8, none⟩) hs1).trans k1)
    | (go_at_call 20; refine (num_any _ _).mono ?_; rintro e w' ⟨rfl, rfl⟩)
    | (go_at_call 10; refine (crc_any none [] 0 _ (Nat.le_refl _) (by simp) (Sees.nil _ _)).mono ?_; rintro e w' ⟨rfl, rfl⟩))
  go_ret
  exact ⟨by rw [show crc [] = 0 from rfl]; rfl, below_step hb1 hb1.size hb2⟩

theorem tmod_gt (k : Int) (n : Nat) (h0 : 0 < n) : -(n : Int) < k.tmod n := by
  by_cases hk : 0 ≤ k
  · have := Int.tmod_nonneg (n : Int) hk
    omega
  · have h1 : k.tmod n = -((-k).tmod n) := by rw [Int.neg_tmod]; omega
    have h2 : (-k).tmod n < n := Int.tmod_lt_of_pos _ (by omega)
    omega
theorem mod_place (k : Int) (n : Nat) (h0 : 0 < n) (hn : n ≤ 140737488355328) : ∃ j : Nat, j < n ∧ (wrap64 (k.tmod (n : Int) + (n : Int))).tmod (n : Int) = (j : Int) := by
  have h1 : -(n : Int) < k.tmod n ∧ k.tmod n < n := ⟨tmod_gt k n h0, Int.tmod_lt_of_pos _ (by omega)⟩
  have h2 : wrap64 (k.tmod (n : Int) + (n : Int)) = k.tmod n + n := by unfold wrap64; omega
  rw [h2]
  have h3 : 0 ≤ (k.tmod n + n).tmod n := Int.tmod_nonneg _ (by omega)
  have h4 : (k.tmod n + n).tmod n < n := Int.tmod_lt_of_pos _ (by omega)
  obtain ⟨j, hj⟩ := Int.eq_ofNat_of_zero_le h3
  exact ⟨j, by omega, hj⟩
/-- A byte of a row of the call's own is written: the row reads so. -/
theorem own_set_u8 {w : World} {base g n c : Nat} {bs : List UInt8} (h : w.ownsRow base 5 1 (.slice (some ⟨g, 0, none⟩) n c) n (u8s bs)) (j : Nat) (y : UInt8) :
    (w.setCell ⟨g, j, none⟩ (.int .u8 (y.toNat : Int))).ownsRow base 5 1 (.slice (some ⟨g, 0, none⟩) n c) n (u8s (bs.set j y)) := by
  have hs := (h.stored j (.int .u8 (y.toNat : Int))).1
  rw [show u8s (bs.set j y) = (u8s bs).set j (.int .u8 (y.toNat : Int)) from by simp [u8s, u8v, List.map_set]]
  exact hs
theorem own_frozen {w : World} {base g n c size : Nat} {e : TypeId} {xs : List Value} (h : w.ownsRow base e size (.slice (some ⟨g, 0, none⟩) n c) n xs) (j : Nat) : w.frozen? ⟨g, j, none⟩ = false := by
  rcases h.2 with ⟨h', _⟩ | ⟨g', cap', cur, h', _, hh, _⟩
  · cases h'
  · cases h'
    simp [World.frozen?, hh]

set_option maxHeartbeats 4000000 in
theorem frameSums_any (A : Option Addr) (bs : List UInt8) (c : Nat) (k : Int) (x : Nat) (w : World) (hc : bs.length ≤ c) (hl : bs.length + 2 ≤ 140737488355328) (hx1 : x < 256) (h : Sees w A (u8s bs)) :
    Calls Try.prog 3 #[.slice A bs.length c, .int .i64 k, .int .u8 (x : Int)] w (RetBool w true) := by
  have H := Lib.hid h
  clear h
  by_cases hbs : bs = []
  · subst hbs
    go_enter Try.func3, Try.ntmps3
    go_wp2_with (first
      | (go_at_call 9; (refine (lent_any A [] c _ hc hl H.out).mono ?_); rintro e w1 ⟨g, c1, rfl, hown1, hb1⟩; have ho1 := sees_own' hown1)
      | (go_at_call 10; (refine (crc_at (some ⟨g, 0, none⟩) 0 c1 [] _ rfl (Nat.zero_le _) (Nat.zero_le _) (Sees.nil _ _)).mono ?_); rintro e w' ⟨rfl, rfl⟩)
      | (go_at_call 11; (refine (refCrc_any A [] c _ hc (Nat.zero_le _) (Sees.nil _ _)).mono ?_); rintro e w' ⟨rfl, rfl⟩)
      | (go_at_call 12; go_loud (refine (stays_yes (some ⟨g, 0, none⟩) 0 c1 A [] c _ (by exact ho1.2.1) (by exact ho1.2.2.1) hc hl (by exact ho1.2.2.2) (Sees.nil _ _)).mono ?_); rintro e w' ⟨rfl, nq, rfl⟩)
      | (go_at_call 13; (refine (knows_yes _).mono ?_); rintro e w2 ⟨rfl, hb2⟩)
      | fail)
    go_ret
    exact ⟨rfl, below_step (below_draws hb1 nq) hb1.size hb2⟩
  have hpos : 0 < bs.length := List.length_pos_iff.2 hbs
  have b1 : ((bs.length : Int) == 0) = false := by simp; omega
  have b2 : (bs.length == 0) = false := by simp; omega
  clear hbs
  by_cases hx : x = 0
  · subst hx
    go_enter Try.func3, Try.ntmps3
    go_wp2_with (first
      | (go_at_call 9; go_loud (refine (lent_any A bs c _ hc hl H.out).mono ?_); rintro e w1 ⟨g, c1, rfl, hown1, hb1⟩; have ho1 := sees_own' hown1; have hse1 : Sees w1 (some ⟨g, 0, none⟩) (u8s bs) := by have := ho1.2.2.2.take bs.length; rwa [← u8s_take, List.take_left' rfl] at this)
      | (go_at_call 10; go_loud (refine (crc_at (some ⟨g, 0, none⟩) bs.length c1 bs _ rfl (by omega) (by omega) (by exact hse1)).mono ?_); rintro e w' ⟨rfl, rfl⟩)
      | (go_at_call 11; go_loud (refine (refCrc_any A bs c _ hc (by omega) (by exact H.out.below hb1)).mono ?_); rintro e w' ⟨rfl, rfl⟩)
      | (go_at_call 12; go_loud (refine (stays_yes (some ⟨g, 0, none⟩) bs.length c1 A bs c _ (by omega) (by omega) hc hl (by exact ho1.2.2.2) (by exact H.out.below hb1)).mono ?_); rintro e w' ⟨rfl, nq, rfl⟩)
      | (go_at_call 13; go_loud (refine (knows_yes _).mono ?_); rintro e w2 ⟨rfl, hb2⟩)
      | fail)
    go_ret
    exact ⟨rfl, below_step (below_draws hb1 nq) hb1.size hb2⟩
  have b3 : ((x : Int) == 0) = false := by simp; omega
  have b4 : (x == 0) = false := by simp; omega
  obtain ⟨j, hj, hje⟩ := mod_place k bs.length hpos (by omega)
  obtain ⟨y, hy⟩ : ∃ y : UInt8, y = UInt8.ofNat (bs[j].toNat ^^^ x) := ⟨_, rfl⟩
  have hyn : y.toNat = bs[j].toNat ^^^ x := by
    have : bs[j].toNat ^^^ x < 256 := Nat.xor_lt_two_pow (n := 8) bs[j].toNat_lt (by omega)
    rw [hy]
    simp [Nat.mod_eq_of_lt this, Nat.mod_eq_of_lt hx1]
  have hxy : bits .xor .u8 (bs[j].toNat : Int) (x : Int) = (y.toNat : Int) := by
    rw [hyn]
    exact u8_xor_nat _ _ bs[j].toNat_lt hx1
  have hne : bs[j] ≠ y := by
    intro he
    have h1 : bs[j].toNat = bs[j].toNat ^^^ x := by rw [← hyn, ← he]
    have h2 : bs[j].toNat ^^^ 0 = bs[j].toNat ^^^ x := by rw [Nat.xor_zero]; exact h1
    exact hx (xor_lc h2).symm
  have hcrc := crc_set bs j y hj hne
  have b5 : ((crc (bs.set j y) : Int) != (crc bs : Int)) = true := by simp; omega
  have b6 : (crc (bs.set j y) != crc bs) = true := by simp; omega
  have HY := Lib.hid (show (u8s bs)[j]? = some (.int .u8 (bs[j].toNat : Int)) from by simp [u8s, u8v, hj])
  have HL := Lib.hid (show (bs.set j y).length = bs.length from List.length_set)
  have hb8 : bs[j].toNat < 256 := bs[j].toNat_lt
  clear hcrc hne hyn hy hx
  generalize bs[j].toNat = bj at hxy HY hb8
  have h0i : (0 : Int) ≤ (j : Int) := by omega
  have hji : (j : Int) < (bs.length : Int) := by omega
  go_enter Try.func3, Try.ntmps3
  go_wp2_with (first
    | (go_at_call 9; go_loud (refine (lent_any A bs c _ hc hl H.out).mono ?_); rintro e w1 ⟨g, c1, rfl, hown1, hb1⟩; have ho1 := sees_own' hown1; have hse1 : Sees w1 (some ⟨g, 0, none⟩) (u8s bs) := by have := ho1.2.2.2.take bs.length; rwa [← u8s_take, List.take_left' rfl] at this)
    | (go_at_call 10; (refine (crc_at (some ⟨g, 0, none⟩) bs.length c1 bs _ rfl (by omega) (by omega) (by exact hse1)).mono ?_); rintro e w' ⟨rfl, rfl⟩)
    | (go_at_call 10; go_loud (refine (crc_at (some ⟨g, 0, none⟩) bs.length c1 (bs.set j y) _ HL.out (by omega) (by omega) (by exact hset)).mono ?_); rintro e w' ⟨rfl, rfl⟩)
    | (go_at_call 11; go_loud (refine (refCrc_any A bs c _ hc (by omega) (by exact H.out.below hb1)).mono ?_); rintro e w' ⟨rfl, rfl⟩)
    | (go_at_call 12; go_loud (refine (stays_yes (some ⟨g, 0, none⟩) bs.length c1 A bs c _ (by omega) (by omega) hc hl (by exact ho1.2.2.2) (by exact H.out.below hb1)).mono ?_); rintro e w' ⟨rfl, nq, rfl⟩)
    | (go_at_call 13; go_loud (refine (knows_yes _).mono ?_); rintro e w2 ⟨rfl, hb2⟩; have hown2 := own_keep (w := w1.drewN nq) hown1 hb2; have hfz := own_frozen hown2 j; have hgge := (own_block_ge hown2 g rfl).1;
        have hcell : w2.cell? ⟨g, j, none⟩ = some (.int .u8 (bj : Int)) := (by obtain ⟨ad', e', hc'⟩ := (sees_own' hown2).2.2.2 j _ (by rw [u8s_append, List.getElem?_append_left (by rw [u8s_length]; exact hj)]; exact HY.out); cases e'; rw [add_base] at hc'; exact hc');
        have hset : Sees (w2.setCell ⟨g, j, none⟩ (.int .u8 (y.toNat : Int))) (some ⟨g, 0, none⟩) (u8s (bs.set j y)) := (by have := (sees_own' (own_set_u8 hown2 j y)).2.2.2.take bs.length; rwa [← u8s_take, List.set_append_left _ _ hj, List.take_left' (by simp)] at this))
    | fail)
  go_ret
  exact ⟨rfl, (below_step (below_draws hb1 nq) hb1.size hb2).setCell hgge _⟩
end Go.Proofs.Ytfbcdlbcdaobcaa
