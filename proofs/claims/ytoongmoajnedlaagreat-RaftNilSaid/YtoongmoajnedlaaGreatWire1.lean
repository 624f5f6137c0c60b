/-
  Package wire: a number as bytes.
-/
import Derived.Test.YtoongmoajnedlaaGreatProg
import Derived.Test.YtoongmoajnedlaaGreatWireP
import Derived.Test.YtoongmoajnedlaaGreatOut
import Derived.Test.YtoongmoajnedlaaGreatRet
import Derived.Lib.EndianBits
import Derived.Lib.AppendZeros
set_option linter.unusedVariables false
set_option linter.unusedSimpArgs false
namespace Go.Proofs.YtoongmoajnedlaaGreat
open Go.RowKit

theorem infoU8 : (Tryz.prog.info? 5).map (fun i => (i.zero, i.size, i.bytes)) = some (some (.int .u8 0), 1, 1) := by kernel_rfl
/-- Some bytes, in a new row or nowhere. -/
def RetBy (bs : List UInt8) (w : World) (e : Ending) (w' : World) : Prop := ∃ A c, e = .returned (.slice A bs.length c) ∧ bs.length ≤ c ∧ Sees w' A (u8s bs) ∧ Below w.heap.size w w'
theorem u8_byte (y : Nat) : IntKind.u8.wrap (y : Int) = ((UInt8.ofNat y).toNat : Int) := by
  rw [u8_of]
  simp only [IntKind.wrap, IntKind.bits, IntKind.signed]
  simp
theorem u8s_ofNat (y : Nat) : u8s [UInt8.ofNat y] = [.int .u8 ((y : Int) % 256)] := by
  unfold u8s u8v
  rw [List.map_singleton, u8_of]
  simp
theorem own_frozen {w : World} {base n m c g size : Nat} {e : TypeId} {xs : List Value} (h : w.ownsRow base e size (.slice (some ⟨g, 0, none⟩) m c) n xs) (j : Nat) : w.frozen? ⟨g, j, none⟩ = false := by
  rcases h.2 with ⟨hv, _⟩ | ⟨g', cap, cur, hv, _, hh, _⟩
  · cases hv
  · cases hv
    simp [World.frozen?, hh]
/-- The first cell of an own row is another one. -/
theorem sees_set0 {w : World} {base n m c g : Nat} {e : TypeId} {u : Value} {xs : List Value} (h : w.ownsRow base e 1 (.slice (some ⟨g, 0, none⟩) m c) n (u :: xs)) (v : Value) : Sees (w.setCell ⟨g, 0, none⟩ v) (some ⟨g, 0, none⟩) (v :: xs) := by
  intro j z hj
  refine ⟨_, rfl, ?_⟩
  rw [add_base]
  have hs := (sees_own' h).2.2.2
  cases j with
  | zero =>
    cases hj
    obtain ⟨ad, e1, hc⟩ := hs 0 u rfl
    cases e1
    rw [add_base] at hc
    exact World.cell?_setCell_same _ _ _ hc
  | succ j =>
    obtain ⟨ad, e1, hc⟩ := hs (j + 1) z hj
    cases e1
    rw [add_base] at hc
    rw [← hc]
    exact World.cell?_setCell_other _ _ _ _ (fun h => by cases h)
theorem own_set0 {w : World} {base n m c g : Nat} {e : TypeId} {u : Value} {xs : List Value} (h : w.ownsRow base e 1 (.slice (some ⟨g, 0, none⟩) m c) n (u :: xs)) (v : Value) : (w.setCell ⟨g, 0, none⟩ v).ownsRow base e 1 (.slice (some ⟨g, 0, none⟩) m c) n (v :: xs) := by
  obtain ⟨h1, h2⟩ := h
  refine ⟨by simpa using h1, ?_⟩
  rcases h2 with ⟨hv, _⟩ | ⟨g', cap, cur, hv, hb, hh, hn, hm, hs, ht⟩
  · cases hv
  · cases hv
    refine .inr ⟨g, c, cur.setIfInBounds 0 v, rfl, hb, ?_, hn, hm, by simpa using hs, ?_⟩
    · simp [World.setCell, Array.getElem?_modify, hh]
    · rw [Array.toList_setIfInBounds]
      cases hc : cur.toList with
      | nil =>
        rw [hc] at ht
        simp at ht
      | cons a l =>
        rw [hc] at ht
        rw [List.set_cons_zero]
        have hn1 : n * 1 = xs.length + 1 := by rw [← h1]; rfl
        rw [hn1, List.take_succ_cons] at ht ⊢
        rw [List.cons.injEq] at ht
        rw [ht.2]
/-- Some bytes, in a new row. -/
def RetByO (bs : List UInt8) (w : World) (e : Ending) (w' : World) : Prop := ∃ A c, e = .returned (.slice A bs.length c) ∧ w'.ownsRow w.heap.size 5 1 (.slice A bs.length c) bs.length (u8s bs) ∧ Below w.heap.size w w'
theorem RetByO.by {bs : List UInt8} {w w' : World} {e : Ending} (h : RetByO bs w e w') : RetBy bs w e w' := by
  obtain ⟨A, c, h1, h2, h3⟩ := h
  obtain ⟨_, h4, _, h5⟩ := sees_own' h2
  exact ⟨A, c, h1, h4, h5, h3⟩
set_option maxHeartbeats 1000000 in
theorem number_own (x : Nat) (w : World) (hx : x < 9223372036854775808) : Calls Tryz.prog 136 #[.int .i64 (x : Int)] w (RetByO (encN x) w) := by
  have hlen : (digs x).length ≤ 8 := digs_len 8 x (by simpa using Nat.lt_of_lt_of_le hx (by decide))
  have HLEN := Lib.hid hlen
  have hown0 := own_lit w 5 (u8s [0]) 1 rfl
  have HST : Hid (∃ (y : Nat) (pre : List UInt8) (A : Option Addr) (m c : Nat), Value.int .i64 (x : Int) = .int .i64 (y : Int) ∧ Value.slice (some ⟨w.heap.size, 0, none⟩) 1 1 = .slice A m c ∧ m = pre.length + 1 ∧ digs x = pre ++ digs y ∧ y ≤ x ∧
      (w.alloc (.cells #[.int .u8 0] 5)).ownsRow w.heap.size 5 1 (.slice A m c) m (u8s (0 :: pre)) ∧ Below w.heap.size w (w.alloc (.cells #[.int .u8 0] 5))) :=
    Lib.hid ⟨x, [], _, 1, 1, rfl, rfl, rfl, rfl, Nat.le_refl _, hown0, (Below.refl _ _).alloc (Nat.le_refl _) _⟩
  clear hown0 hlen
  go_enter Tryz.func136, Tryz.ntmps136
  go_wp2_with fail
  go_loopw [0, 3] (fun s0 s3 wr => ∃ (y : Nat) (pre : List UInt8) (A : Option Addr) (m c : Nat), s0 = .int .i64 (y : Int) ∧ s3 = .slice A m c ∧ m = pre.length + 1 ∧ digs x = pre ++ digs y ∧ y ≤ x ∧
      wr.ownsRow w.heap.size 5 1 (.slice A m c) m (u8s (0 :: pre)) ∧ Below w.heap.size w wr) (fun s0 _ _ => (intOf s0).toNat)
  case atStart => exact HST.out
  case round =>
    obtain ⟨y, pre, A, m, c, rfl, rfl, hm, hd, hyx, hown, hb⟩ := hrel
    have HOWN := Lib.hid hown
    have HB := Lib.hid hb
    have HD := Lib.hid hd
    have hml : pre.length ≤ 8 := by have := HLEN.out; rw [hd, List.length_append] at this; omega
    have HM := Lib.hid hm
    have hm9 : m ≤ 9 := by omega
    have hm0 : 0 < m := by omega
    clear HST hown hb hd hm
    by_cases h0 : 0 < y
    · have h0i : (0 : Int) < (y : Int) := by omega
      have HV := Lib.hid (u8s_ofNat y)
      go_wp2_with (first
        | (at_builtin; refine wpList_append_sees rfl (.tmp 9) (.tmp 12) 29 rfl w.heap.size 5 (.int .u8 0) 1 1 Tryz.underlying29 infoU8 rfl (by decide) (.slice A m c) m (u8s (0 :: pre)) rfl (own_alloc' HOWN.out _) (some ⟨wr.heap.size, 0, none⟩) 1 1 [.int .u8 ((y : Int) % 256)] rfl rfl (sees_new wr #[.int .u8 ((y : Int) % 256)] 5) (by simp [Value.oneCell']) (by simp only [maxLen]; omega) (by omega) (by have := HB.out.size; simp; omega) ?_; intro A2 c2 w2 hown2 hg2 hat2; have HOWN2 := Lib.hid hown2; have HB2 := Lib.hid (below_grown_own (HB.out.alloc HB.out.size (.cells #[.int .u8 ((y : Int) % 256)] 5)) (by have := HB.out.size; simp; omega) (own_alloc' HOWN.out _) (Nat.le_refl _) hg2); clear hown2 hg2 hat2)
        | fail)
      go_roundw
      case rel =>
        refine ⟨y / 256, pre ++ [UInt8.ofNat y], A2, m + 1, c2, by simp, rfl, ?_, ?_, by omega, ?_, HB2.out⟩
        · rw [HM.out, List.length_append, List.length_singleton]
        · rw [HD.out, digs_pos h0, List.append_assoc]
          rfl
        · have h9 := HOWN2.out
          rw [← HV.out, ← u8s_append] at h9
          exact h9
      case measure => simp [intOf]; omega
    · have h0i : ¬ (0 : Int) < (y : Int) := by omega
      obtain rfl : y = 0 := by omega
      obtain ⟨hmc, g, rfl, hg1, hg2⟩ := own_pos HOWN.out hm0
      have hf := own_frozen HOWN.out 0
      obtain ⟨ad, e1, hc0⟩ := (sees_own' HOWN.out).2.2.2 0 _ rfl
      cases e1
      rw [add_base] at hc0
      have HDD : Hid (digs x = pre) := Lib.hid (by have := HD.out; rwa [digs_zero, List.append_nil] at this)
      have HS := Lib.hid (own_set0 HOWN.out (.int .u8 (((UInt8.ofNat (digs x).length).toNat : Nat) : Int)))
      have HLV : Hid (((m : Int) - 1) = (((UInt8.ofNat (digs x).length).toNat : Nat) : Int)) := Lib.hid (by rw [u8_of, HDD.out, HM.out]; omega)
      have HBS : Hid (∀ v, Below w.heap.size w (wr.setCell ⟨g, 0, none⟩ v)) := Lib.hid (fun v => HB.out.setCell (p := ⟨g, 0, none⟩) hg1 _)
      have HEN : Hid ((encN x).length = m) := Lib.hid (by unfold encN; rw [List.length_cons, HDD.out, HM.out])
      go_wp2_with fail
      go_ret
      rw [HLV.out]
      refine ⟨_, c, by rw [HEN.out]; rfl, ?_, HBS.out _⟩
      have h9 := HS.out
      rw [HEN.out]
      have e9 : u8s (encN x) = .int .u8 (((UInt8.ofNat (digs x).length).toNat : Nat) : Int) :: List.map u8v pre := by
        unfold encN u8s
        rw [HDD.out]
        rfl
      rw [e9]
      exact h9
theorem number_any (x : Nat) (w : World) (hx : x < 9223372036854775808) : Calls Tryz.prog 136 #[.int .i64 (x : Int)] w (RetBy (encN x) w) :=
  (number_own x w hx).mono fun _ _ h => h.by
end Go.Proofs.YtoongmoajnedlaaGreat
