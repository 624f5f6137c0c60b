/-
  Order: numbers in Order's order.
-/
import Derived.Test.YtbnbeailbhnbdaaOrdC
set_option linter.unusedVariables false
set_option linter.unusedSimpArgs false
namespace Go.Proofs.Ytbnbeailbhnbdaa
open Go.RowKit

def ltO (cs : List CV) : Int → Int → Bool := ltK (fun x => (atC cs x).place) (fun x => lateI (atC cs x)) (fun x => (atC cs x).beg)
theorem or3_lt (a b c d e f : Int) : orL [cmpI a b, cmpI c d, cmpI e f] < 0 ↔ a < b ∨ (a = b ∧ (c < d ∨ (c = d ∧ e < f))) := by
  have h2 := or2_lt c d e f
  rcases Int.lt_trichotomy a b with h | h | h
  · have h1 : ¬ b < a := by omega
    simp [orL, cmpI, h, h1]
  · subst h
    have h1 : ¬ a < a := by omega
    have h3 : orL [cmpI a a, cmpI c d, cmpI e f] = orL [cmpI c d, cmpI e f] := by simp [orL, cmpI]
    rw [h3, h2]
    simp
  · have h1 : ¬ a < b := by omega
    have h4 : ¬ a = b := by omega
    simp [orL, cmpI, h, h1, h4]
theorem byO_lt (cs : List CV) {x y : Int} (h : y < x) : decide (byO (atC cs x) (atC cs y) < 0) = ltO cs x y := by
  unfold byO ltO ltK
  refine decide_eq_decide.2 ?_
  rw [or3_lt]
  dsimp only
  omega
set_option maxHeartbeats 2000000 in
theorem numO_any {p1 p2 p3 g n cp : Nat} {cs : List CV} (w : World) (h1 : w.cell? ⟨p1, 0, none⟩ = some (.func (.func 38) #[] #[.pointer (some ⟨p3, 0, none⟩)])) (h2 : w.cell? ⟨p2, 0, none⟩ = some (.slice (some ⟨g, 0, none⟩) n cp)) (h4 : w.cell? ⟨p3, 0, none⟩ = some (.func (.func 36) #[] #[])) (h3 : CallsAt g cs w) (hn : n ≤ 140737488355328) (x y : Nat) (hx : x < n) (hy : y < n) (c d : CV) (hc : cs[x]? = some c) (hd : cs[y]? = some d) :
    Calls Try.prog 53 #[.int .i64 (x : Int), .int .i64 (y : Int), .pointer (some ⟨p1, 0, none⟩), .pointer (some ⟨p2, 0, none⟩)] w (RetInt (byO c d) w) := by
  have hall : ∀ W', Below w.heap.size w W' → W'.cell? ⟨p1, 0, none⟩ = some (.func (.func 38) #[] #[.pointer (some ⟨p3, 0, none⟩)]) ∧ W'.cell? ⟨p2, 0, none⟩ = some (.slice (some ⟨g, 0, none⟩) n cp) ∧ W'.rangeAt g (x * 12) c.cells.toList ∧ W'.rangeAt g (y * 12) d.cells.toList ∧ W'.cell? ⟨p3, 0, none⟩ = some (.func (.func 36) #[] #[]) := by
    intro W' hb
    exact ⟨(hb.cell (World.block_lt_of_cell? _ _ h1)).trans h1, (hb.cell (World.block_lt_of_cell? _ _ h2)).trans h2, h3.below hb x c hc, h3.below hb y d hd, (hb.cell (World.block_lt_of_cell? _ _ h4)).trans h4⟩
  have HL := Lib.hid hall
  clear hall h1 h2 h3 h4 hc hd
  have hxi : (x : Int) < (n : Int) := by omega
  have hyi : (y : Int) < (n : Int) := by omega
  go_enter Try.func53, Try.ntmps53
  go_wp2
  refine wp_region_calm (Later w) (by kernel_rfl) (by kernel_rfl) (Below.refl _ _).drew (fun hne => ?_)
  have c0 := fun p : InS (Later w) => (HL.out p.w p.h).1
  have c1 := fun p : InS (Later w) => (HL.out p.w p.h).2.1
  have c2 := fun p : InS (Later w) => (HL.out p.w p.h).2.2.1
  have c3 := fun p : InS (Later w) => (HL.out p.w p.h).2.2.2.1
  repeat (first
    | (go_big_quiet_step (first
      | (go_at_call 38; exact calm_of (byO_any c d p3 _ (HL.out _ (InS.h _)).2.2.2.2) (by rintro e w' ⟨rfl, hb⟩; exact ⟨rfl, later_step (InS.h _) hb⟩))
      | fail))
    | (go_big_quiet_want; refine quiet_load_mid _ _ rfl _ _ rfl _ _ (by rintro _ ⟨p, rfl⟩; exact c2 p) Try.underlying62 rfl (by kernel_rfl) ?_; go_big_quiet_on; simp only [Act.put, List.setIfInBounds_toArray, List.set_cons_zero, List.set_cons_succ])
    | (go_big_quiet_want; refine quiet_load_mid _ _ rfl _ _ rfl _ _ (by rintro _ ⟨p, rfl⟩; exact c3 p) Try.underlying62 rfl (by kernel_rfl) ?_; go_big_quiet_on; simp only [Act.put, List.setIfInBounds_toArray, List.set_cons_zero, List.set_cons_succ]))
  refine wpQuiet_nil ?_
  rintro _ ⟨p, rfl⟩
  go_wp2
  go_ret
  exact ⟨rfl, p.h⟩
/-- What numbers' comparison needs. -/
def GO (p1 p2 p3 gc : Nat) (A : Option Addr) (n cp : Nat) (cs : List CV) (W : World) : Prop :=
  W.cell? ⟨p1, 0, none⟩ = some (.func (.func 38) #[] #[.pointer (some ⟨p3, 0, none⟩)]) ∧ W.cell? ⟨p2, 0, none⟩ = some (.slice A n cp) ∧ CallsAt gc cs W ∧ W.cell? ⟨p3, 0, none⟩ = some (.func (.func 36) #[] #[])
theorem GO.out {p1 p2 p3 gc g : Nat} {A : Option Addr} {n cp : Nat} {cs : List CV} {W W' : World} (h : GO p1 p2 p3 gc A n cp cs W) (hO : Outside (· = g) W W') (h1 : p1 ≠ g) (h2 : p2 ≠ g) (h3 : gc ≠ g) (h4 : p3 ≠ g) : GO p1 p2 p3 gc A n cp cs W' := by
  have hc : ∀ (p : Addr) v, p.block ≠ g → W.cell? p = some v → W'.cell? p = some v := by
    intro p v hp hv
    have hl := World.block_lt_of_cell? _ _ hv
    have h2 := hO.block p.block hl hp
    rw [← hv]
    simp only [World.cell?, h2]
  exact ⟨hc _ _ h1 h.1, hc _ _ h2 h.2.1, h.2.2.1.out hO h3, hc _ _ h4 h.2.2.2⟩
theorem cmpO_ok {p1 p2 p3 gc g : Nat} {A : Option Addr} {n cp : Nat} {cs : List CV} (h1 : p1 ≠ g) (h2 : p2 ≠ g) (h3 : gc ≠ g) (h4 : p3 ≠ g) (hn : cs.length = n) (hm : n ≤ 140737488355328) (hA : 0 < n → A = some ⟨gc, 0, none⟩) :
    CmpOK (GO p1 p2 p3 gc A n cp cs) g (n : Int) p1 p2 (ltO cs) where
  keep W W' h hO := h.out hO h1 h2 h3 h4
  call W x y h hy hyx hx := by
    obtain rfl := hA (by omega)
    obtain ⟨xn, rfl⟩ : ∃ k : Nat, x = (k : Int) := ⟨x.toNat, by omega⟩
    obtain ⟨yn, rfl⟩ : ∃ k : Nat, y = (k : Int) := ⟨y.toNat, by omega⟩
    have hget : ∀ k : Nat, k < n → cs[k]? = some (atC cs (k : Int)) := by
      intro k hk
      unfold atC
      rw [Int.toNat_natCast, List.getD_eq_getElem?_getD, List.getElem?_eq_getElem (by omega)]
      rfl
    refine (numO_any W h.1 h.2.1 h.2.2.2 h.2.2.1 hm xn yn (by omega) (by omega) _ _ (hget xn (by omega)) (hget yn (by omega))).mono ?_
    rintro e w' ⟨rfl, hb⟩
    exact ⟨_, rfl, byO_lt cs hyx, hb⟩
set_option maxHeartbeats 4000000 in
theorem numbers_ord {gc p3 : Nat} {A : Option Addr} {n cp : Nat} {cs : List CV} (w : World) (hn : cs.length = n) (hm : n ≤ 1099511627776) (hA : 0 < n → A = some ⟨gc, 0, none⟩) (hcs : CallsAt gc cs w) (hgc : gc < w.heap.size) (h3 : w.cell? ⟨p3, 0, none⟩ = some (.func (.func 36) #[] #[])) :
    Calls Try.prog 37 #[.slice A n cp, .func (.func 38) #[] #[.pointer (some ⟨p3, 0, none⟩)]] w (RetRow (srtI (ltO cs) 0 n) w) := by
  have HN := Lib.hid hn
  have HAA := Lib.hid hA
  have HCS := Lib.hid hcs
  have hp3 : p3 < w.heap.size := World.block_lt_of_cell? _ _ h3
  clear hn hA hcs
  have hmk := run_make_row' (P := Try.prog) 41 3 (.int .i64 0) 8 Try.underlying41 (by kernel_rfl) rfl .i64 .i64 n (by omega) (by omega)
  obtain ⟨W, hW⟩ : ∃ W, ((w.alloc (.cells #[.slice A n cp] 45)).alloc (.cells #[.func (.func 38) #[] #[.pointer (some ⟨p3, 0, none⟩)]] 80)) = W := ⟨_, rfl⟩
  have hbW : Below w.heap.size w W := by rw [← hW]; exact ((Below.refl w.heap.size w).alloc (Nat.le_refl _) _).alloc (by simp) _
  have hzW : W.heap.size = w.heap.size + 2 := by rw [← hW]; simp
  obtain ⟨W2, hW2⟩ : ∃ W2, W.alloc (.cells (madeCells #[.int .i64 0] n) 3) = W2 := ⟨_, rfl⟩
  have hbW2 : Below W.heap.size W W2 := by rw [← hW2]; exact (Below.refl _ _).alloc (Nat.le_refl _) _
  have x1 : W.cell? ⟨w.heap.size, 0, none⟩ = some (.slice A n cp) := by rw [← hW]; simp
  have x2 : W.cell? ⟨w.heap.size + 1, 0, none⟩ = some (.func (.func 38) #[] #[.pointer (some ⟨p3, 0, none⟩)]) := by rw [← hW]; simp
  have y1 : W2.cell? ⟨w.heap.size, 0, none⟩ = some (.slice A n cp) := (hbW2.cell (World.block_lt_of_cell? _ _ x1)).trans x1
  have y2 : W2.cell? ⟨w.heap.size + 1, 0, none⟩ = some (.func (.func 38) #[] #[.pointer (some ⟨p3, 0, none⟩)]) := (hbW2.cell (World.block_lt_of_cell? _ _ x2)).trans x2
  have ha : ArrAt W.heap.size (List.replicate n 0) W2 := by
    rw [← hW2]
    show (W.heap.push _)[W.heap.size]? = _
    have : madeCells #[Value.int .i64 0] n = ((List.replicate n (0 : Int)).map i64v).toArray := by
      apply Array.ext'
      rw [toList_madeCells_one]
      simp [i64v]
    rw [this]
    simp
  obtain ⟨g0, hg0⟩ : ∃ g0, w.heap.size = g0 := ⟨_, rfl⟩
  obtain ⟨g, hg⟩ : ∃ g, g0 + 1 + 1 = g := ⟨_, rfl⟩
  rw [hzW, hg0, hg] at ha
  rw [hg0] at y1 y2 hzW hgc hp3
  have HGR : Hid (GO (g0 + 1) g0 p3 gc A n cp cs W2) := Lib.hid ⟨y2, y1, (HCS.out.below hbW).below hbW2, ((below_step hbW hbW.size hbW2).cell (World.block_lt_of_cell? _ _ h3)).trans h3⟩
  have HB2 : Hid (Below w.heap.size w W2) := Lib.hid (below_step hbW hbW.size hbW2)
  have HW := Lib.hid hW
  have HW2 := Lib.hid hW2
  have HGG := Lib.hid hg
  have HST : Hid (∃ k : Nat, Value.int .i64 0 = .int .i64 (k : Int) ∧ k ≤ n ∧ ArrAt g (ival 0 k ++ List.replicate (n - k) 0) W2 ∧ Outside (· = g) W2 W2) := Lib.hid ⟨0, rfl, Nat.zero_le _, by rw [ival_nil (Nat.le_refl _)]; exact ha, Outside.refl _ _⟩
  clear hbW hbW2 hW hW2 x1 x2 y1 y2 ha hg h3
  go_enter Try.func37, Try.ntmps37
  go_wp2_with fail
  rw [HW.out, HW2.out, HGG.out]
  have hg := HGG.out
  go_loopw [12] (fun s wr => ∃ k : Nat, s = .int .i64 (k : Int) ∧ k ≤ n ∧ ArrAt g (ival 0 k ++ List.replicate (n - k) 0) wr ∧ Outside (· = g) W2 wr) (fun s _ => n - (intOf s).toNat)
  case atStart => exact HST.out
  case round =>
    obtain ⟨k, rfl, hk, harr, hout⟩ := hrel
    have HA := Lib.hid harr
    have HO := Lib.hid hout
    by_cases hlt : k < n
    · have hki : (k : Int) < (n : Int) := by omega
      have hl : k < (ival 0 k ++ List.replicate (n - k) (0 : Int)).length := by rw [List.length_append, ival_length, List.length_replicate]; omega
      have hc := harr.cell hl
      have hf := harr.frozen k
      clear harr hout hl
      go_wp2_with fail
      go_roundw
      case rel =>
        refine ⟨k + 1, by go_num, hlt, ?_, HO.out.set _ _ (.inr rfl)⟩
        rw [← fill_step n k hlt]
        exact HA.out.set k _
      case measure => simp [intOf] <;> omega
    · obtain rfl : k = n := by omega
      have hki : ¬ (k : Int) < (k : Int) := by omega
      have ha : ArrAt g (ival 0 k) wr := by
        have := HA.out
        rwa [Nat.sub_self, List.replicate_zero, List.append_nil] at this
      have HA2 := Lib.hid ha
      clear harr hout ha
      go_wp2_with (first
        | (go_at_call 52; refine (sort_any (p1 := g0 + 1) (p2 := g0) (cmpO_ok (g := g) (by omega) (by omega) (by omega) (by omega) HN.out (by omega) HAA.out) (ltK_lo _ _ _) (HGR.out.out HO.out (by omega) (by omega) (by omega) (by omega)) HA2.out (by omega)).mono ?_; rintro e w1 ⟨rfl, ha1, ho1⟩; have HA3 := Lib.hid ha1; have HO3 := Lib.hid ho1; clear ha1 ho1)
        | fail)
      go_ret
      have hs : (srtI (ltO cs) 0 k).length = k := by rw [srtI_length, Nat.sub_zero]
      refine ⟨g, by rw [hs]; rfl, HA3.out, by omega, ?_⟩
      have h1 := HO.out.trans HO3.out (fun b _ hb => hb)
      exact HB2.out.trans (h1.below (B := w.heap.size) (fun b hb => by omega) HB2.out.size)
end Go.Proofs.Ytbnbeailbhnbdaa
