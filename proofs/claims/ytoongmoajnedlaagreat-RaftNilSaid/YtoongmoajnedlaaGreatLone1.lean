/-
  A server in memory: its cells; its log's last, its servers, the others.
-/
import Derived.Test.YtoongmoajnedlaaGreatAtS
import Derived.Test.YtoongmoajnedlaaGreatVc4
import Derived.BigQuiet
set_option linter.unusedVariables false
set_option linter.unusedSimpArgs false
namespace Go.Proofs.YtoongmoajnedlaaGreat
open Go.RowKit

/-- The server's 35 cells. -/
def RAt (W : World) (r : Nat) (vs : List Value) : Prop := W.heap[r]? = some (.cells vs.toArray 81 (0, 0))
section
variable {W W' : World} {r : Nat} {vs : List Value}
theorem RAt.cell (h : RAt W r vs) {j : Nat} {v : Value} (hj : vs[j]? = some v) : W.cell? ⟨r, j, none⟩ = some v := by
  rw [cell_of_row _ _ j _ _ _ h]
  simpa using hj
theorem RAt.frozen (h : RAt W r vs) (j : Nat) : W.frozen? ⟨r, j, none⟩ = false := by unfold RAt at h; simp [World.frozen?, h]
theorem RAt.lt (h : RAt W r vs) : r < W.heap.size := (Array.getElem?_eq_some_iff.1 h).1
theorem RAt.set (h : RAt W r vs) (j : Nat) (v : Value) : RAt (W.setCell ⟨r, j, none⟩ v) r (vs.set j v) := by
  unfold RAt at *
  simp [World.setCell, Array.getElem?_modify, h]
theorem RAt.below (h : RAt W r vs) (hb : Below W.heap.size W W') : RAt W' r vs := (hb.block r h.lt).trans h
theorem RAt.far (h : RAt W r vs) (p : Addr) (u : Value) (hp : p.block ≠ r) : RAt (W.setCell p u) r vs := (Below.heap_setCell W p u r (fun e => hp e.symm)).trans h
theorem RAt.out {S : Nat → Prop} (h : RAt W r vs) (ho : Outside S W W') (hs : ¬ S r) : RAt W' r vs := (ho.block r h.lt hs).trans h
end
/-- A log whose entries are none of servers. -/
structure LogAt (W : World) (r : Nat) (base : Int) (A : Option Addr) (n c : Nat) (cells : List Value) (B : Option Addr) (d : Nat) (is : List Int) : Prop where
  c5 : W.cell? ⟨r, 5, none⟩ = some (.int .i64 base)
  c7 : W.cell? ⟨r, 7, none⟩ = some (.slice A n c)
  c9 : W.cell? ⟨r, 9, none⟩ = some (.slice B is.length d)
  len : cells.length = n * 4
  see : Sees W A cells
  head : ∀ i : Int, HeadE i cells n
  sees : Sees W B (is.map i64v)
  ld : is.length ≤ d
  l8 : is.length ≤ 7
  n4 : n ≤ 4096
  b0 : 0 ≤ base
  b1 : base ≤ 1099511627776
section
variable {W W' : World} {r : Nat} {base : Int} {A : Option Addr} {n c : Nat} {cells : List Value} {B : Option Addr} {d : Nat} {is : List Int}
theorem LogAt.below (h : LogAt W r base A n c cells B d is) (hb : Below W.heap.size W W') : LogAt W' r base A n c cells B d is :=
  { h with
    c5 := (hb.cell (World.block_lt_of_cell? _ _ h.c5)).trans h.c5
    c7 := (hb.cell (World.block_lt_of_cell? _ _ h.c7)).trans h.c7
    c9 := (hb.cell (World.block_lt_of_cell? _ _ h.c9)).trans h.c9
    see := h.see.below hb
    sees := h.sees.below hb }
theorem last_any' (w : World) (h : LogAt w r base A n c cells B d is) : Calls Tryz.prog 71 #[.pointer (some ⟨r, 5, none⟩)] w (RetQuiet w (.int .i64 (base + (n : Int)))) := by
  have c5 := h.c5
  have c7 := h.c7
  have hn := h.n4
  have h0 := h.b0
  have h1 := h.b1
  clear h
  go_enter Tryz.func71, Tryz.ntmps71
  go_wp2_with fail
  go_quiet (fail)
  go_wp2_with fail
  go_ret
  exact ⟨by go_num, _, rfl⟩
theorem servers_any (w : World) (h : LogAt w r base A n c cells B d is) : Calls Tryz.prog 57 #[.pointer (some ⟨r, 5, none⟩)] w (C.RetInts w is.length is) := by
  have HL := Lib.hid (last_any' w h)
  have HLA := Lib.hid h
  clear h
  go_enter Tryz.func57, Tryz.ntmps57
  go_wp2_with (first
    | (go_at_call 71; refine HL.out.mono ?_; rintro e w1 ⟨rfl, nq, rfl⟩)
    | (go_at_call 58; refine (serversAt_none r n c d A B cells is _ _ (by have := HLA.out.n4; omega) HLA.out.len (HLA.out.see.drewN _) (HLA.out.head _) HLA.out.c7 HLA.out.c9 HLA.out.ld (by have := HLA.out.l8; omega) (HLA.out.sees.drewN _)).mono ?_; rintro e w2 ⟨A2, c2, rfl, hown, hb⟩)
    | fail)
  go_ret
  exact ⟨A2, c2, rfl, by simpa using hown, (below_draws (Below.refl _ _) nq).trans (by simpa using hb)⟩
theorem others_any (id : Int) (w : World) (h : LogAt w r base A n c cells B d is) (hid : w.cell? ⟨r, 17, none⟩ = some (.int .i64 id)) :
    Calls Tryz.prog 63 #[.pointer (some ⟨r, 0, none⟩)] w (C.RetInts w (C.filt is id).length (C.filt is id)) := by
  obtain ⟨W1, hW1⟩ : ∃ W1, w.alloc (.cells #[.pointer (some ⟨r, 0, none⟩)] 24) = W1 := ⟨_, rfl⟩
  obtain ⟨gb, hgb⟩ : ∃ gb, w.heap.size = gb := ⟨_, rfl⟩
  have hb1 : Below w.heap.size w W1 := by rw [← hW1]; exact (Below.refl _ _).alloc (Nat.le_refl _) _
  have hz1 : W1.heap.size = gb + 1 := by rw [← hW1, ← hgb]; simp
  have hbx : Box W1 gb 24 (.pointer (some ⟨r, 0, none⟩)) := by rw [← hW1, ← hgb]; exact Box.new _ _ _
  have hrl : r < gb := by rw [← hgb]; exact World.block_lt_of_cell? _ _ hid
  have k1 := hbx.cell
  have HS := Lib.hid (servers_any W1 (h.below hb1))
  have HID := Lib.hid ((hb1.cell (World.block_lt_of_cell? _ _ hid)).trans hid)
  have HL7 := Lib.hid h.l8
  have HW1 := Lib.hid hW1
  have HGB := Lib.hid hgb
  have HZ1 := Lib.hid hz1
  have HBX := Lib.hid hbx
  have HRL := Lib.hid hrl
  have HB1 := Lib.hid hb1
  clear hW1 hgb hz1 hbx hrl hb1 h hid
  go_enter Tryz.func63, Tryz.ntmps63
  go_upto_region 1 with fail
  rw [HW1.out]
  rw [HGB.out]
  go_wp2_with (first
    | (go_at_call 57; refine HS.out.mono ?_; rintro e w2 ⟨A2, c2, rfl, hown2, hb2⟩;
        have hcap : C.Cap w2 gb r id := ⟨(HBX.out.below hb2 HBX.out.lt).cell, (hb2.cell (World.block_lt_of_cell? _ _ HID.out)).trans HID.out⟩;
        have HDF := Lib.hid (C.deleteFunc_any A2 is c2 gb r id w2 hown2 (by have := HL7.out; omega) hcap (fun q hq => by have := (own_block_ge hown2 q hq).1; have := HZ1.out; have := HRL.out; constructor <;> omega));
        have HO2 := Lib.hid hown2; have HB2 := Lib.hid hb2; clear hown2 hb2 hcap)
    | (go_at_call 127; refine HDF.out.mono ?_; rintro e w3 ⟨rfl, hown3, ho3⟩)
    | fail)
  go_ret
  have hb3 := ho3.below (fun b hb => (own_block_ge HO2.out b hb).1) HB2.out.size
  exact ⟨A2, c2, rfl, own_lower hown3 HB1.out.size, (below_step HB1.out HB1.out.size HB2.out).trans (hb3.mono HB1.out.size)⟩
end
end Go.Proofs.YtoongmoajnedlaaGreat
