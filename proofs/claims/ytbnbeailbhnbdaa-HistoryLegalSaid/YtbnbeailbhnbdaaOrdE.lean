/-
  Order.
-/
import Derived.Test.YtbnbeailbhnbdaaOrdD
import Derived.Laws.EntriesVeiled
set_option linter.unusedVariables false
set_option linter.unusedSimpArgs false
namespace Go.Proofs.Ytbnbeailbhnbdaa
open Go.RowKit

/-- The calls in Order's order. -/
def ordL (cs : List CV) (n : Nat) : List Int := keepO cs (srtI (ltO cs) 0 n)
def RetOrd (L : List Int) (w : World) (e : Ending) (w' : World) : Prop := ∃ A m c, e = .returned (.slice A m c) ∧ m = L.length ∧ Sees w' A (L.map i64v) ∧ Below w.heap.size w w'
theorem arr_sees {W : World} {g : Nat} {es L : List Int} (ha : ArrAt g es W) (ht : es.take L.length = L) : Sees W (some ⟨g, 0, none⟩) (L.map i64v) := fun j v hj => by
  refine ⟨_, rfl, ?_⟩
  rw [add_base]
  have hjl : j < L.length := by
    rcases Nat.lt_or_ge j L.length with h | h
    · exact h
    · rw [List.getElem?_eq_none (by simpa using h)] at hj
      cases hj
  have hle : L.length ≤ es.length := by
    have := congrArg List.length ht
    rw [List.length_take] at this
    omega
  rw [ha.cell (show j < es.length by omega)]
  rw [List.getElem?_map, List.getElem?_eq_getElem hjl] at hj
  cases hj
  have : L[j] = es.getD j 0 := by
    have h9 : (es.take L.length)[j]? = L[j]? := by rw [ht]
    rw [List.getElem?_take_of_lt hjl, List.getElem?_eq_getElem hjl] at h9
    rw [List.getD_eq_getElem?_getD, h9]
    rfl
  rw [this]
  rfl
set_option maxHeartbeats 4000000 in
theorem order_any {gc n cp : Nat} {A : Option Addr} {cs : List CV} (w : World) (hn : cs.length = n) (hm : n ≤ 1099511627776) (hA : 0 < n → A = some ⟨gc, 0, none⟩) (hcs : CallsAt gc cs w) (hgc : gc ≤ w.heap.size) :
    Calls Try.prog 26 #[.slice A n cp] w (RetOrd (ordL cs n) w) := by
  obtain ⟨W, hW⟩ : ∃ W, (w.alloc (.cells #[.slice A n cp] 45)).alloc (.cells #[.func (.func 36) #[] #[]] 76) = W := ⟨_, rfl⟩
  have hbW : Below w.heap.size w W := by rw [← hW]; exact ((Below.refl w.heap.size w).alloc (Nat.le_refl _) _).alloc (by simp) _
  have hzW : W.heap.size = w.heap.size + 2 := by rw [← hW]; simp
  have x1 : W.cell? ⟨w.heap.size, 0, none⟩ = some (.slice A n cp) := by rw [← hW]; simp
  have x2 : W.cell? ⟨w.heap.size + 1, 0, none⟩ = some (.func (.func 36) #[] #[]) := by rw [← hW]; simp
  obtain ⟨b0, hb0⟩ : ∃ b0, w.heap.size = b0 := ⟨_, rfl⟩
  rw [hb0] at x1 x2 hzW hgc
  have HNUM := Lib.hid (numbers_ord (gc := gc) (p3 := b0 + 1) (cp := cp) W hn hm hA (hcs.below hbW) (by omega) x2)
  have HA := Lib.hid hA
  have HCS := Lib.hid (hcs.below hbW)
  have HN := Lib.hid hn
  have HW := Lib.hid hW
  have HB := Lib.hid hbW
  have HB0 := Lib.hid hb0
  obtain ⟨ds, hds⟩ : ∃ ds, srtI (ltO cs) 0 n = ds := ⟨_, rfl⟩
  obtain ⟨m, hdm⟩ : ∃ m, ds.length = m := ⟨_, rfl⟩
  rw [hds] at HNUM
  have HDS : Hid (∀ x ∈ ds, 0 ≤ x ∧ x < (n : Int)) := Lib.hid (fun x hx => by rw [← hds, mem_srtI] at hx; omega)
  have HDM := Lib.hid hdm
  have hmn : m ≤ 1099511627776 := by rw [← hdm, ← hds, srtI_length]; omega
  have HEQ : Hid (keepO cs ds = ordL cs n) := Lib.hid (by rw [← hds]; rfl)
  have HX1 : Hid (∀ W', Below W.heap.size W W' → W'.cell? ⟨b0, 0, none⟩ = some (.slice A n cp)) := Lib.hid (fun W' hb' => (hb'.cell (World.block_lt_of_cell? _ _ x1)).trans x1)
  have HZW := Lib.hid hzW
  clear hW hbW hA hcs hn hds hdm hzW x2 hb0 x1
  go_enter Try.func26, Try.ntmps26
  go_upto_region 2 with fail
  try rw [HW.out]
  try rw [HB0.out]
  have y1 := HX1.out W (Below.refl _ _)
  go_upto_region 3 with (first
    | (go_at_call 37; refine HNUM.out.mono ?_; rintro e w1 ⟨g, rfl, ha1, hg1, hb1⟩; have HA1 := Lib.hid ha1; have HB1 := Lib.hid hb1; have HG1 := Lib.hid hg1; clear ha1 hg1 hb1)
    | fail)
  clear y1
  rw [HDM.out]
  have HDEL := Lib.hid (delete_ord (pl := b0) (gc := gc) (cp := cp) w1 ⟨HX1.out w1 HB1.out, HCS.out.below HB1.out, HA.out⟩ (by have := HG1.out; have := HZW.out; omega) (by have := HG1.out; have := HZW.out; omega) HN.out HA1.out HDS.out HDM.out hmn)
  unfold delV at HDEL
  go_wp2_with (first
    | (go_at_call 41; refine HDEL.out.mono ?_; rintro e w2 ⟨rfl, hk2, ⟨es, ha2, ht2⟩, ho2⟩; have HA2 := Lib.hid ha2; have HT2 := Lib.hid ht2; have HO2 := Lib.hid ho2; clear ha2 ht2 ho2)
    | fail)
  go_ret
  rw [HEQ.out]
  refine ⟨_, _, _, rfl, rfl, arr_sees HA2.out (by have := HT2.out; rw [HEQ.out] at this; exact this), ?_⟩
  have h1 := below_step HB.out HB.out.size HB1.out
  exact h1.trans (HO2.out.below (B := w.heap.size) (fun b hb => by have := HG1.out; have := HB.out.size; omega) h1.size)
end Go.Proofs.Ytbnbeailbhnbdaa
