/-
  bytes: rows of bytes that were handed in, in memory of their own.
-/
import Derived.Test.YtbnbeailbhnbdaaKnow
set_option linter.unusedVariables false
set_option linter.unusedSimpArgs false
namespace Go.Proofs.Ytbnbeailbhnbdaa
open Go.RowKit

/-- Rows of bytes that were handed in. -/
def SeenR (W : World) (R : Option Addr) (xs : List (List UInt8)) : Prop := ∃ cells, Sees W R cells ∧ Recs (fun W bs cs => BytesR W bs cs) 1 W xs cells
theorem BytesR.below {W W' : World} {bs : List UInt8} {cs : List Value} (h : BytesR W bs cs) (hb : Below W.heap.size W W') : BytesR W' bs cs := by
  obtain ⟨A, c, e, h1, h2, h3⟩ := h
  exact ⟨A, c, e, h1, h2, h3.below hb⟩
theorem SeenR.below {W W' : World} {R : Option Addr} {xs : List (List UInt8)} (h : SeenR W R xs) (hb : Below W.heap.size W W') : SeenR W' R xs := by
  obtain ⟨cells, h1, css, h2, h3, h4⟩ := h
  exact ⟨cells, h1.below hb, css, h2, h3, fun j x cs hx hc => ⟨(h4 j x cs hx hc).1, (h4 j x cs hx hc).2.below hb⟩⟩
theorem SeenR.at {W : World} {R : Option Addr} {xs : List (List UInt8)} (h : SeenR W R xs) {k : Nat} (hk : k < xs.length) : ∃ ad A1 c1, R = some ad ∧ W.cell? (ad.add k) = some (.slice A1 xs[k].length c1) ∧ xs[k].length ≤ c1 ∧ Sees W A1 (u8s xs[k]) := by
  obtain ⟨cells, h1, h2⟩ := h
  obtain ⟨cs, _, ⟨A1, c1, rfl, h3, _, h4⟩, hcs⟩ := h2.get (List.getElem?_eq_getElem hk)
  have hu : cells[k]? = some (.slice A1 xs[k].length c1) := by simpa using hcs 0 _ rfl
  obtain ⟨ad, e, hc⟩ := h1 k _ hu
  exact ⟨ad, A1, c1, e, hc, h3, h4⟩
/-- New rows in a new row. -/
def RetRows (xs : List (List UInt8)) (w : World) (e : Ending) (w' : World) : Prop :=
  ∃ A m c cells, e = .returned (.slice A m c) ∧ m = xs.length ∧ w'.ownsRow w.heap.size 30 1 (.slice A m c) m cells ∧ Recs (byRow (fun b => w.heap.size ≤ b)) 1 w' xs cells ∧ Below w.heap.size w w'
def RowsOwn (n0 : Nat) (xs : List (List UInt8)) (k : Nat) (A : Option Addr) (c : Nat) (cells : List Value) (W : World) : Prop := W.ownsRow n0 30 1 (.slice A k c) k cells ∧ Recs (byRow (fun b => n0 ≤ b)) 1 W (xs.take k) cells
/-- One row more. -/
theorem rows_more {n0 k c c2 c4 q : Nat} {xs : List (List UInt8)} {A A2 A4 : Option Addr} {cells : List Value} {w wr w4 w5 : World} {x : List UInt8} (h : RowsOwn n0 xs k A c cells wr) (hx : xs[k]? = some x) (hq : x.length = q) (hb : Below n0 w wr) (hn0 : n0 ≤ wr.heap.size)
    (h4 : w4.ownsRow wr.heap.size 5 1 (.slice A4 q c4) q (u8s x)) (hb4 : Below wr.heap.size wr w4)
    (h5 : w5.ownsRow n0 30 1 (.slice A2 (k + 1) c2) (k + 1) (cells ++ [.slice A4 q c4])) (hg : (w4.alloc (.cells #[.slice A4 q c4] 30)).grownBy w5 (Value.slice A k c).ownBlock) :
    RowsOwn n0 xs (k + 1) A2 c2 (cells ++ [.slice A4 q c4]) w5 ∧ Below n0 w w5 := by
  subst hq
  have hal : Below w4.heap.size w4 (w4.alloc (.cells #[.slice A4 x.length c4] 30)) := (Below.refl _ _).alloc (Nat.le_refl _) _
  have hbal : Below wr.heap.size wr (w4.alloc (.cells #[.slice A4 x.length c4] 30)) := below_step hb4 hb4.size hal
  have ho1 : (w4.alloc (.cells #[.slice A4 x.length c4] 30)).ownsRow n0 30 1 (.slice A k c) k cells := own_keep h.1 hbal
  refine ⟨⟨h5, ?_⟩, below_grown_own (below_step hb hn0 hbal) (by have := hbal.size; omega) ho1 (Nat.le_refl _) hg⟩
  have hkl := (List.getElem?_eq_some_iff.1 hx).1
  have htk : xs.take (k + 1) = xs.take k ++ [x] := by rw [List.take_succ_eq_append_getElem hkl, (List.getElem?_eq_some_iff.1 hx).2]
  have hkeep : ∀ {b q : Nat} {v : Value} {ys : List Value}, (w4.alloc (.cells #[.slice A4 x.length c4] 30)).ownsRow b 5 1 v q ys → w5.ownsRow b 5 1 v q ys := fun h => own_apart h ho1 (by decide) hg
  rw [htk]
  refine (h.2.imp fun j y cs _ hR => ?_).snoc rfl ⟨A4, c4, rfl, own_lower (hkeep (own_keep h4 hal)) (Nat.zero_le _), fun z hz => by have := (own_block_ge h4 z hz).1; omega⟩
  obtain ⟨A', c', e, ho', hs'⟩ := hR
  exact ⟨A', c', e, hkeep (own_keep ho' hbal), hs'⟩
set_option maxHeartbeats 4000000 in
theorem bytes_any (R : Option Addr) (xs : List (List UInt8)) (m rc : Nat) (w : World) (h : SeenR w R xs) (hm : xs.length = m) (hm2 : m * 24 ≤ 140737488351232) (hl : ∀ x ∈ xs, x.length ≤ 140737488351232) :
    Calls Try.prog 33 #[.slice R m rc] w (RetRows xs w) := by
  have H := Lib.hid h
  have HM := Lib.hid hm
  have HL := Lib.hid hl
  clear h hm hl
  obtain ⟨n0, hn0⟩ : ∃ n0, w.heap.size = n0 := ⟨_, rfl⟩
  have HN0 := Lib.hid hn0
  go_enter Try.func33, Try.ntmps33
  go_wp2_with fail
  have rel0 : ∃ (k : Nat) (A : Option Addr) (c : Nat) (cells : List Value), Value.slice none 0 0 = .slice A k c ∧ Value.int .i64 0 = .int .i64 (k : Int) ∧ k ≤ m ∧ RowsOwn n0 xs k A c cells w ∧ Below n0 w w ∧ n0 ≤ w.heap.size :=
    ⟨0, none, 0, [], rfl, rfl, Nat.zero_le _, ⟨⟨rfl, .inl ⟨rfl, rfl⟩⟩, Recs.nil⟩, Below.refl _ _, by omega⟩
  have REL0 := Lib.hid rel0
  clear rel0 hn0
  go_loopw [3, 4] (fun s3 s4 wr => ∃ (k : Nat) (A : Option Addr) (c : Nat) (cells : List Value), s3 = .slice A k c ∧ s4 = .int .i64 (k : Int) ∧ k ≤ m ∧ RowsOwn n0 xs k A c cells wr ∧ Below n0 w wr ∧ n0 ≤ wr.heap.size) (fun _ s4 _ => m - (intOf s4).toNat)
  case atStart => exact REL0.out
  case round =>
    obtain ⟨k, A, c, cells, rfl, rfl, hk, hro, hb, hz⟩ := hrel
    have HRO := Lib.hid hro
    have HB := Lib.hid hb
    clear hro hb REL0
    by_cases hlt : k < m
    · have hki : (k : Int) < (m : Int) := by omega
      obtain ⟨ad, A1, c1, rfl, hc, hc1, hs1⟩ := (H.out.below (by rw [HN0.out]; exact HB.out)).at (k := k) (by rw [HM.out]; exact hlt)
      obtain ⟨x, hx⟩ : ∃ x, xs[k]'(by rw [HM.out]; exact hlt) = x := ⟨_, rfl⟩
      rw [hx] at hc hc1 hs1
      have hxm : xs[k]? = some x := by rw [List.getElem?_eq_getElem (by rw [HM.out]; exact hlt), hx]
      have hxl := HL.out x (List.mem_of_getElem? hxm)
      obtain ⟨q, hq⟩ : ∃ q, x.length = q := ⟨_, rfl⟩
      rw [hq] at hc hc1 hxl
      have HX := Lib.hid hxm
      have HQ := Lib.hid hq
      have HS1 := Lib.hid hs1
      have hc' : ∀ W', Below wr.heap.size wr W' → W'.cell? (ad.add k) = some (.slice A1 q c1) := fun W' hb => (hb.cell (World.block_lt_of_cell? _ _ hc)).trans hc
      have i4 := hc' _ ((Below.refl wr.heap.size wr).alloc (Nat.le_refl _) (.cells #[] 5))
      have HSE : Hid (Sees (wr.alloc (.cells #[] 5)) A1 (u8s x)) := Lib.hid (hs1.below ((Below.refl _ _).alloc (Nat.le_refl _) _))
      clear hxm hq hs1 hx hc'
      go_wp2_with (first
        | (at_builtin; refine wpList_append_sees rfl (.tmp 12) (.tmp 16) 30 rfl wr.heap.size 5 (.int .u8 0) 1 1 Try.underlying30 infoU8 rfl (by decide) (.slice (some ⟨wr.heap.size, 0, none⟩) 0 0) 0 [] rfl (own_made0 wr 5 1) A1 q c1 (u8s x) rfl (by simp [u8s, HQ.out]) HSE.out (u8s_one _) (by simp only [maxLen]; omega) (by omega) (by simp) ?_; intro A4 c4 w4 hown4 hg4 hat4; have hb4 := below_grown_own ((Below.refl wr.heap.size wr).alloc (Nat.le_refl _) (.cells #[] 5)) (by simp) (own_made0 wr 5 1) (Nat.le_refl _) hg4; have HOW4 := Lib.hid hown4; have HB4 := Lib.hid hb4; have e0 : 0 + q = q := Nat.zero_add _; rw [e0]; rw [e0] at HOW4; clear hown4 hg4 hat4 hb4 e0)
        | (at_builtin; refine wpList_append_sees rfl (.tmp 11) (.tmp 18) 26 rfl n0 30 (.slice none 0 0) 1 24 Try.underlying26 infoBytes rfl (by decide) (.slice A k c) k cells rfl (own_keep HRO.out.1 (below_step HB4.out HB4.out.size ((Below.refl _ _).alloc (Nat.le_refl _) _))) (some ⟨w4.heap.size, 0, none⟩) 1 1 [.slice A4 q c4] rfl rfl (sees_new _ _ _) (by simp [Value.oneCell']) (by simp only [maxLen]; omega) (by omega) (by have := HB4.out.size; simp; omega) ?_; intro A2 c2 w5 hown5 hg5 hat5; have HF := Lib.hid (rows_more HRO.out HX.out HQ.out HB.out hz (by simpa using HOW4.out) HB4.out hown5 hg5); have hz5 := hg5.size; clear hown5 hg5 hat5)
        | fail)
      go_roundw
      case rel =>
        refine ⟨k + 1, A2, c2, _, rfl, by go_num, hlt, HF.out.1, HF.out.2, ?_⟩
        have := HB4.out.size
        simp at hz5
        omega
      case measure => simp [intOf] <;> omega
    · have hki : ¬ (k : Int) < (m : Int) := by omega
      go_wp2_with fail
      go_ret
      have hkm : k = m := by omega
      refine ⟨A, k, c, cells, rfl, by rw [HM.out]; exact hkm, by rw [HN0.out]; exact HRO.out.1, ?_, by rw [HN0.out]; exact HB.out⟩
      have h2 := HRO.out.2
      rw [List.take_of_length_le (by rw [HM.out]; omega)] at h2
      rw [HN0.out]
      exact h2
end Go.Proofs.Ytbnbeailbhnbdaa
