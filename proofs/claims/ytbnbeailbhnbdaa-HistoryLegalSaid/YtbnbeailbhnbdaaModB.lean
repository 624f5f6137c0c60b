/-
  Trim.
-/
import Derived.Test.YtbnbeailbhnbdaaModA
import Derived.Test.YtbnbeailbhnbdaaCalmO
set_option linter.unusedVariables false
set_option linter.unusedSimpArgs false
namespace Go.Proofs.Ytbnbeailbhnbdaa
open Go.RowKit

def clampN (to : Int) (first n : Nat) : Nat := (min (max to (first : Int)) ((first + n : Nat) : Int)).toNat
theorem clampN_spec (to : Int) (first n : Nat) : first ≤ clampN to first n ∧ clampN to first n ≤ first + n ∧ ((clampN to first n : Nat) : Int) = min (max to (first : Int)) ((first + n : Nat) : Int) := by
  unfold clampN
  omega
theorem trim_slice {w : World} {R : Option Addr} {n cr : Nat} {cells : List Value} (h : ownsQ w 0 30 1 (.slice R n cr) n cells) (k : Nat) (hk : k ≤ n) :
    ∃ X, (if cr = k then R else Option.map (fun x => x.add k) R) = X ∧ (Value.slice X (n - k) (cr - k)).ownBlock = (Value.slice R n cr).ownBlock ∧ ownsQ w 0 30 1 (.slice X (n - k) (cr - k)) (n - k) (cells.drop k) := by
  rcases h.2 with ⟨hv, h0⟩ | ⟨g, o, cap, cur, hv, r⟩
  · cases hv
    obtain rfl : k = 0 := by omega
    exact ⟨none, by simp, rfl, by simpa using h⟩
  · cases hv
    obtain ⟨hg, hh, h3, h4, h5, h6⟩ := r
    have hlen : (cells.drop k).length = (n - k) * 1 := by rw [List.length_drop, h.1, Nat.mul_one, Nat.mul_one]
    by_cases hc : cr = k
    · rw [if_pos hc]
      refine ⟨_, rfl, rfl, hlen, .inr ⟨g, o, cr - k, cur, rfl, hg, hh, by omega, by omega, by omega, ?_⟩⟩
      have h0 : cells.drop k = [] := List.drop_of_length_le (by rw [h.1]; omega)
      rw [h0, show (n - k) * 1 = 0 by omega, List.take_zero]
    · rw [if_neg hc]
      refine ⟨_, rfl, by simp [Value.ownBlock, add_raw], hlen, .inr ⟨g, o + k, cr - k, cur, by simp [add_raw], hg, hh, by omega, by omega, by omega, ?_⟩⟩
      rw [← h6, List.drop_take, List.drop_drop, Nat.mul_one, Nat.mul_one]
theorem trim_done {ty : TypeId} {S : Nat → Prop} {g first : Nat} {l : List (List UInt8)} {w W : World} {R : Option Addr} {cr : Nat} {cells : List Value} {X : Option Addr} {c' t k : Nat}
    (h1 : w.heap[g]? = some (modObj ty first R l.length cr)) (h2 : S g) (h4 : ∀ b, (Value.slice R l.length cr).ownBlock = some b → S b) (h5 : Recs (byRow S) 1 w l cells) (ht1 : 30 ≠ ty) (ht2 : 5 ≠ ty)
    (hX : (Value.slice X (l.length - k) c').ownBlock = (Value.slice R l.length cr).ownBlock) (hq : ownsQ w 0 30 1 (.slice X (l.length - k) c') (l.length - k) (cells.drop k)) (hk : k ≤ l.length) (hB : Below w.heap.size w W) :
    ModAt ty (Plus S w) g t (l.drop k) ((W.setCell ⟨g, 1, none⟩ (.slice X (l.length - k) c')).setCell ⟨g, 0, none⟩ (.int .i64 (t : Int))) ∧ Outside S w ((W.setCell ⟨g, 1, none⟩ (.slice X (l.length - k) c')).setCell ⟨g, 0, none⟩ (.int .i64 (t : Int))) := by
  have hlen : (l.drop k).length = l.length - k := by simp
  have hgl := (Array.getElem?_eq_some_iff.1 h1).1
  have z1 := (hB.block g hgl).trans h1
  have hout : Outside S w ((W.setCell ⟨g, 1, none⟩ (.slice X (l.length - k) c')).setCell ⟨g, 0, none⟩ (.int .i64 (t : Int))) := ((Outside.of_below hB).set ⟨g, 1, none⟩ _ (.inr h2)).set ⟨g, 0, none⟩ _ (.inr h2)
  have hother : ∀ b, b < w.heap.size → b ≠ g → ((W.setCell ⟨g, 1, none⟩ (.slice X (l.length - k) c')).setCell ⟨g, 0, none⟩ (.int .i64 (t : Int))).heap[b]? = w.heap[b]? := fun b hb hne => by
    rw [Below.heap_setCell _ _ _ b hne, Below.heap_setCell _ _ _ b hne]
    exact hB.block b hb
  refine ⟨⟨X, c', cells.drop k, ?_, .inl h2, ?_, ?_, ?_⟩, hout⟩
  · rw [hlen]
    simp [World.setCell, Array.getElem?_modify, z1, modObj]
  · rw [hlen]
    exact q_same hq fun b hb => hother b (q_block_lt hq hb) (fun e => q_apart hq h1 ht1 (by rw [hb, e]))
  · intro b hb
    rw [hlen, hX] at hb
    exact .inl (h4 b hb)
  · have h6 := h5.drop k
    rw [Nat.mul_one] at h6
    refine h6.imp fun j x cs _ hl => ?_
    obtain ⟨A1, c1, e, ho, hs⟩ := hl
    exact ⟨A1, c1, e, own_same ho (fun b hb => hother b (own_block_ge ho b hb).2 (fun e => own_far ho h1 ht2 (by rw [hb, e]))), fun b hb => .inl (hs b hb)⟩
set_option maxHeartbeats 4000000 in
theorem trim_any {S : Nat → Prop} {g first : Nat} {l : List (List UInt8)} (to : Int) (w : World) (h : ModAt 61 S g first l w) (hf : first ≤ 140737488355328) (hl : l.length ≤ 4398046511104) :
    Calls Try.prog 13 #[.pointer (some ⟨g, 0, none⟩), .int .i64 to] w (RetMod 61 S g (clampN to first l.length) (l.drop (clampN to first l.length - first)) ((clampN to first l.length : Nat) : Int) w) := by
  obtain ⟨R, cr, cells, h1, h2, h3, h4, h5⟩ := id h
  obtain ⟨k0, k1, kf⟩ := mod_cells h1
  obtain ⟨q1, q2, q3⟩ := clampN_spec to first l.length
  obtain ⟨t, ht⟩ : ∃ t, clampN to first l.length = t := ⟨_, rfl⟩
  rw [ht] at q1 q2 q3 ⊢
  obtain ⟨k, hk⟩ : ∃ k, t - first = k := ⟨_, rfl⟩
  rw [hk]
  obtain ⟨X, hX, hXb, hq⟩ := trim_slice h3 k (by omega)
  have hkn : k ≤ l.length := by omega
  have hgl := (Array.getElem?_eq_some_iff.1 h1).1
  have hS : ∀ W', Below w.heap.size w W' → W'.cell? ⟨g, 0, none⟩ = some (.int .i64 (first : Int)) ∧ W'.cell? ⟨g, 1, none⟩ = some (.slice R l.length cr) ∧ (∀ j, W'.frozen? ⟨g, j, none⟩ = false) := fun W' hb => mod_cells ((hb.block g hgl).trans h1)
  have HH := Lib.hid h
  have HS := Lib.hid hS
  have HD := Lib.hid (fun W => trim_done (W := W) (t := t) h1 h2 h4 h5 (by decide) (by decide) hXb hq (by omega))
  have ek : (t : Int) - (first : Int) = (k : Int) := by omega
  have HT : Hid ((if (first : Int) + (l.length : Int) < if to < (first : Int) then (first : Int) else to then (first : Int) + (l.length : Int) else if to < (first : Int) then (first : Int) else to) = (t : Int)) := Lib.hid (by
    rw [q3]
    split <;> split at * <;> omega)
  have HNX := Lib.hid (fun W (hb : Below w.heap.size w W) => next_any W (h.below hb) hf (by omega))
  clear h h1 h2 h3 h4 h5 k0 k1 kf hS hXb hq hk ht q3
  go_enter Try.func13, Try.ntmps13
  go_wp2_with fail
  refine wp_region_calm (Later w) (by kernel_rfl) (by kernel_rfl) (Below.refl _ _).drew (fun hne => ?_)
  have c0 := fun p : InS (Later w) => (HS.out p.w p.h).1
  repeat (go_big_quiet_step (first
    | (go_at_call 19; exact calm_of (HNX.out _ (InS.h _)) (by rintro e w' ⟨rfl, hb⟩; exact ⟨rfl, later_step (InS.h _) hb⟩))
    | fail))
  refine wpQuiet_nil ?_
  rintro _ ⟨p, rfl⟩
  rw [HT.out]
  obtain ⟨W, hb⟩ := p
  have HB := Lib.hid hb
  have y0 : W.drew.cell? ⟨g, 0, none⟩ = some (.int .i64 (first : Int)) := (HS.out W.drew hb.drew).1
  have y1 : W.drew.cell? ⟨g, 1, none⟩ = some (.slice R l.length cr) := (HS.out W.drew hb.drew).2.1
  have y2 : W.drew.frozen? ⟨g, 0, none⟩ = false := (HS.out W.drew hb.drew).2.2 0
  have y3 : W.drew.frozen? ⟨g, 1, none⟩ = false := (HS.out W.drew hb.drew).2.2 1
  have z0 : W.cell? ⟨g, 0, none⟩ = some (.int .i64 (first : Int)) := y0
  have z1 : W.cell? ⟨g, 1, none⟩ = some (.slice R l.length cr) := y1
  have z2 : W.frozen? ⟨g, 0, none⟩ = false := y2
  have z3 : W.frozen? ⟨g, 1, none⟩ = false := y3
  have e4 : IntKind.i64.wrap (k : Int) = (k : Int) := IntWalk.i64_in _ (by omega)
  dsimp only
  clear hb c0 hne
  go_wp2_with fail
  all_goals go_region_law (fail)
  all_goals go_wp2
  all_goals go_ret
  all_goals exact ⟨rfl, HD.out W.drew HB.out.drew⟩
end Go.Proofs.Ytbnbeailbhnbdaa
/-
  The reference's Trim.
-/
set_option linter.unusedVariables false
set_option linter.unusedSimpArgs false
namespace Go.Proofs.Ytbnbeailbhnbdaa
open Go.RowKit

theorem q_sees {w : World} {base n c size : Nat} {e : TypeId} {A : Option Addr} {xs : List Value} (h : ownsQ w base e size (.slice A n c) n xs) : Sees w A xs := by
  intro j u hj
  rcases h.2 with ⟨hv, h0⟩ | ⟨g, o, cap, cur, hv, hg, hh, h3, h4, h5, h6⟩
  · subst h0
    have : xs = [] := List.eq_nil_of_length_eq_zero (by simpa using h.1)
    subst this
    simp at hj
  · cases hv
    refine ⟨_, rfl, ?_⟩
    rw [add_raw, cell_of_row w g (o + j) cur e (0, 0) hh]
    rw [← h6, List.getElem?_take] at hj
    split at hj
    · rw [List.getElem?_drop] at hj
      simpa using hj
    · cases hj
theorem q_of_own {w : World} {base base' n size : Nat} {e : TypeId} {v : Value} {xs : List Value} (h : w.ownsRow base e size v n xs) (hB : base' ≤ base) : ownsQ w base' e size v n xs := by
  refine ⟨h.1, ?_⟩
  rcases h.2 with h2 | ⟨g, cap, cur, hv, hg, hh, h3, h4, h5, h6⟩
  · exact .inl h2
  · exact .inr ⟨g, 0, cap, cur, hv, Nat.le_trans hB hg, hh, h3, h4, by omega, by simpa using h6⟩
theorem recs_one {S : Nat → Prop} {w : World} {l : List (List UInt8)} {cells : List Value} (h : Recs (byRow S) 1 w l cells) : ∀ u ∈ cells, u.oneCell' = true := by
  obtain ⟨css, rfl, hl, _, hR⟩ := h.all
  intro u hu
  obtain ⟨cs, hcs, huc⟩ := List.mem_flatten.1 hu
  obtain ⟨j, hj, rfl⟩ := List.getElem_of_mem hcs
  obtain ⟨A, c, e, _⟩ := hR j (l[j]'(by omega)) css[j] (List.getElem?_eq_getElem (by omega)) (List.getElem?_eq_getElem hj)
  rw [e] at huc
  simp at huc
  subst huc
  rfl
theorem reftrim_done {ty : TypeId} {S : Nat → Prop} {g first : Nat} {l : List (List UInt8)} {w w4 : World} {R : Option Addr} {cr : Nat} {cells : List Value} {A4 : Option Addr} {c4 t k : Nat}
    (h1 : w.heap[g]? = some (modObj ty first R l.length cr)) (h2 : S g) (h5 : Recs (byRow S) 1 w l cells) (ht1 : 30 ≠ ty) (ht2 : 5 ≠ ty)
    (ho : w4.ownsRow w.heap.size 30 1 (.slice A4 (l.length - k) c4) (l.length - k) (cells.drop k)) (hB : Below w.heap.size w w4) :
    ModAt ty (Plus S w) g t (l.drop k) ((w4.setCell ⟨g, 1, none⟩ (.slice A4 (l.length - k) c4)).setCell ⟨g, 0, none⟩ (.int .i64 (t : Int))) ∧ Outside S w ((w4.setCell ⟨g, 1, none⟩ (.slice A4 (l.length - k) c4)).setCell ⟨g, 0, none⟩ (.int .i64 (t : Int))) := by
  have hlen : (l.drop k).length = l.length - k := by simp
  have hgl := (Array.getElem?_eq_some_iff.1 h1).1
  have z1 := (hB.block g hgl).trans h1
  have hout : Outside S w ((w4.setCell ⟨g, 1, none⟩ (.slice A4 (l.length - k) c4)).setCell ⟨g, 0, none⟩ (.int .i64 (t : Int))) := ((Outside.of_below hB).set ⟨g, 1, none⟩ _ (.inr h2)).set ⟨g, 0, none⟩ _ (.inr h2)
  have hother : ∀ b, b ≠ g → ((w4.setCell ⟨g, 1, none⟩ (.slice A4 (l.length - k) c4)).setCell ⟨g, 0, none⟩ (.int .i64 (t : Int))).heap[b]? = w4.heap[b]? := fun b hne => by
    rw [Below.heap_setCell _ _ _ b hne, Below.heap_setCell _ _ _ b hne]
  have hq : ownsQ w4 0 30 1 (.slice A4 (l.length - k) c4) (l.length - k) (cells.drop k) := q_of_own ho (Nat.zero_le _)
  refine ⟨⟨A4, c4, cells.drop k, ?_, .inl h2, ?_, ?_, ?_⟩, hout⟩
  · rw [hlen]
    simp [World.setCell, Array.getElem?_modify, z1, modObj]
  · rw [hlen]
    exact q_same hq fun b hb => hother b (fun e => q_apart hq z1 ht1 (by rw [hb, e]))
  · intro b hb
    rw [hlen] at hb
    exact .inr (own_block_ge ho b hb).1
  · have h6 := h5.drop k
    rw [Nat.mul_one] at h6
    refine h6.imp fun j x cs _ hl => ?_
    obtain ⟨A1, c1, e, ho, hs⟩ := hl
    exact ⟨A1, c1, e, own_same ho (fun b hb => (hother b (fun e => own_far ho h1 ht2 (by rw [hb, e]))).trans (hB.block b (own_block_ge ho b hb).2)), fun b hb => .inl (hs b hb)⟩
set_option maxHeartbeats 4000000 in
theorem reftrim_any {S : Nat → Prop} {g first : Nat} {l : List (List UInt8)} (to : Int) (w : World) (h : ModAt 28 S g first l w) (hf : first ≤ 140737488355328) (hl : l.length ≤ 4398046511104) :
    Calls Try.prog 14 #[.pointer (some ⟨g, 0, none⟩), .int .i64 to] w (RetMod 28 S g (clampN to first l.length) (l.drop (clampN to first l.length - first)) ((clampN to first l.length : Nat) : Int) w) := by
  have hh := Lib.hid h
  obtain ⟨q1, q2, q3⟩ := clampN_spec to first l.length
  obtain ⟨t, ht⟩ : ∃ t, clampN to first l.length = t := ⟨_, rfl⟩
  rw [ht] at q1 q2 q3 ⊢
  obtain ⟨k, hk⟩ : ∃ k, t - first = k := ⟨_, rfl⟩
  rw [hk]
  have hkn : k ≤ l.length := by omega
  have HS : Hid (∃ R cr, ∀ W', Below w.heap.size w W' → W'.cell? ⟨g, 0, none⟩ = some (.int .i64 (first : Int)) ∧ W'.cell? ⟨g, 1, none⟩ = some (.slice R l.length cr) ∧ (∀ j, W'.frozen? ⟨g, j, none⟩ = false)) := Lib.hid (by
    obtain ⟨R, cr, cells, h1, _⟩ := h
    exact ⟨R, cr, fun W' hb => mod_cells ((hb.block g (Array.getElem?_eq_some_iff.1 h1).1).trans h1)⟩)
  have ek : (t : Int) - (first : Int) = (k : Int) := by omega
  have HT : Hid ((if (first : Int) + (l.length : Int) < if to < (first : Int) then (first : Int) else to then (first : Int) + (l.length : Int) else if to < (first : Int) then (first : Int) else to) = (t : Int)) := Lib.hid (by
    rw [q3]
    split <;> split at * <;> omega)
  have HNX := Lib.hid (fun W (hb : Below w.heap.size w W) => refnext_any W (h.below hb) hf (by omega))
  clear h hk ht q3
  obtain ⟨R0, cr0, hS0⟩ := HS.out
  clear HS
  have HS := Lib.hid hS0
  clear hS0
  go_enter Try.func14, Try.ntmps14
  go_wp2_with fail
  refine wp_region_calm (Later w) (by kernel_rfl) (by kernel_rfl) (Below.refl _ _).drew (fun hne => ?_)
  have c0 := fun p : InS (Later w) => (HS.out p.w p.h).1
  repeat (go_big_quiet_step (first
    | (go_at_call 20; exact calm_of (HNX.out _ (InS.h _)) (by rintro e w' ⟨rfl, hb⟩; exact ⟨rfl, later_step (InS.h _) hb⟩))
    | fail))
  refine wpQuiet_nil ?_
  rintro _ ⟨p, rfl⟩
  rw [HT.out]
  obtain ⟨W, hb⟩ := p
  dsimp only
  clear HS c0 hne
  have hM := hh.out.below hb
  obtain ⟨R, cr, cells, h1, h2, h3, h4, h5⟩ := hM
  have HB := Lib.hid hb
  clear hb
  obtain ⟨X, hX, hXb, hq⟩ := trim_slice h3 k hkn
  have hgl := (Array.getElem?_eq_some_iff.1 h1).1
  have hS : ∀ W', Below W.heap.size W W' → W'.cell? ⟨g, 0, none⟩ = some (.int .i64 (first : Int)) ∧ W'.cell? ⟨g, 1, none⟩ = some (.slice R l.length cr) ∧ (∀ j, W'.frozen? ⟨g, j, none⟩ = false) := fun W' hb => mod_cells ((hb.block g hgl).trans h1)
  have hba0 : Below W.heap.size W (W.alloc (.cells #[] 30)).drew := ((Below.refl W.heap.size W).alloc (Nat.le_refl _) _).drew
  have y0 := (hS W (Below.refl _ _)).1
  have y1 := (hS W (Below.refl _ _)).2.1
  have y2 := (hS W (Below.refl _ _)).2.2
  have z0 := (hS W.drew (Below.refl _ _).drew).1
  have z1 := (hS W.drew (Below.refl _ _).drew).2.1
  have x0 := (hS _ hba0).1
  have x1 := (hS _ hba0).2.1
  have hqs : Sees (W.alloc (.cells #[] 30)).drew X (cells.drop k) := q_sees (hq.keep hba0)
  have hone : ∀ u ∈ cells.drop k, u.oneCell' = true := fun u hu => recs_one h5 u (List.mem_of_mem_drop hu)
  have e4 : IntKind.i64.wrap (k : Int) = (k : Int) := IntWalk.i64_in _ (by omega)
  have hcl : (cells.drop k).length = (l.length - k) * 1 := by rw [List.length_drop, h3.1, Nat.mul_one, Nat.mul_one]
  go_wp2_with fail
  all_goals go_region_law
    (first
      | (refine step_append_sees rfl (.tmp 15) (.tmp 26) 26 (by rfl) W.heap.size 30 (.slice none 0 0) 1 24 Try.underlying26 infoBytes rfl (by decide) (.slice (some ⟨W.heap.size, 0, none⟩) 0 0) 0 [] (by rfl) (by exact own_made0 W _ 1) X (l.length - k) (cr - k) (cells.drop k) (by rfl) hcl (by exact hqs) hone (by simp only [maxLen]; omega) (by omega) (by simp) ?_; intro A4 c4 w4 hown4' hg4 hat4; have hb4 : Below W.heap.size W w4 := below_grown_own hba0 (by simp) (own_made0 W 30 1) (Nat.le_refl _) hg4; have hown4 : w4.ownsRow W.heap.size 30 1 (.slice A4 (l.length - k) c4) (l.length - k) (cells.drop k) := (by simpa using hown4'); have k4 := (hS w4 hb4).2.1; have k5 := (hS w4 hb4).2.2 1; have k6 := (hS w4 hb4).1; have k7 := (hS w4 hb4).2.2 0)
      | fail)
  all_goals (have hd := reftrim_done (t := t) h1 h2 h5 (by decide) (by decide) hown4 hb4; have HD := Lib.hid hd; have HB4 := Lib.hid hb4; clear hd h1 h2 h3 h4 h5 hq hS hba0 hqs hone hcl hown4 hown4' hg4 hat4 hb4)
  all_goals go_wp2
  all_goals go_ret
  all_goals exact ⟨rfl, HD.out.1.mono (fun b hb => hb.imp id (Nat.le_trans HB.out.size)), (Outside.of_below HB.out).trans HD.out.2 (fun b _ hb => hb)⟩
end Go.Proofs.Ytbnbeailbhnbdaa
/-
  The reference's Get.
-/
set_option linter.unusedVariables false
set_option linter.unusedSimpArgs false
namespace Go.Proofs.Ytbnbeailbhnbdaa
open Go.RowKit

/-- Which records are told. -/
def getOK (fr : Int) (first n : Nat) : Bool := decide ((first : Int) ≤ fr) && decide (fr ≤ ((first + n : Nat) : Int))
def getL (fr most : Int) (first : Nat) (l : List (List UInt8)) : List (List UInt8) := if getOK fr first l.length = true then (l.drop (fr - first).toNat).take most.toNat else []
/-- Rows that stand in a new row. -/
def RetGetR (S : Nat → Prop) (xs : List (List UInt8)) (b : Bool) (w : World) (e : Ending) (w' : World) : Prop :=
  ∃ A m c cells, e = .returned (.tuple #[.slice A m c, .bool b]) ∧ m = xs.length ∧ w'.ownsRow w.heap.size 30 1 (.slice A m c) m cells ∧ Recs (byRow S) 1 w' xs cells ∧ Below w.heap.size w w'
theorem recs_keep {S : Nat → Prop} {w W : World} {l : List (List UInt8)} {cells : List Value} (h : Recs (byRow S) 1 w l cells) (hb : Below w.heap.size w W) : Recs (byRow S) 1 W l cells := h.imp fun j x cs _ hl => by
  obtain ⟨A1, c1, e, ho, hs⟩ := hl
  exact ⟨A1, c1, e, own_keep ho hb, hs⟩
theorem get_eq {l : List (List UInt8)} {k m i n q : Nat} (hn : l.length = n) (hi : k + m = i) (hin : i ≤ n) (hm : m ≤ q) (he : i = n ∨ m = q) : (l.drop k).take q = (l.drop k).take m := by
  rcases he with he | he
  · rw [List.take_of_length_le (by rw [List.length_drop]; omega), List.take_of_length_le (by rw [List.length_drop]; omega)]
  · rw [he]
theorem get_len {l : List (List UInt8)} {k m i n q : Nat} (hn : l.length = n) (hi : k + m = i) (hin : i ≤ n) (hm : m ≤ q) (he : i = n ∨ m = q) : m = ((l.drop k).take q).length := by
  rw [get_eq hn hi hin hm he, List.length_take, List.length_drop]
  omega
theorem get_recs {S : Nat → Prop} {w W : World} {l : List (List UInt8)} {cells : List Value} {k m i n q : Nat} (hn : l.length = n) (h : Recs (byRow S) 1 w l cells) (hb : Below w.heap.size w W) (hi : k + m = i) (hin : i ≤ n) (hm : m ≤ q) (he : i = n ∨ m = q) : Recs (byRow S) 1 W ((l.drop k).take q) ((cells.drop k).take m) := by
  rw [get_eq hn hi hin hm he]
  have h1 := ((recs_keep h hb).drop k).take m
  rwa [Nat.mul_one, Nat.mul_one] at h1
theorem cell_get {S : Nat → Prop} {w : World} {l : List (List UInt8)} {cells : List Value} {i n : Nat} (h : Recs (byRow S) 1 w l cells) (hn : l.length = n) (hi : i < n) : ∃ A q c, cells[i]? = some (.slice A q c) := by
  have hil : i < l.length := by omega
  obtain ⟨cs, _, ⟨A1, c1, rfl, _, _⟩, hcs⟩ := h.get (List.getElem?_eq_getElem hil)
  exact ⟨A1, _, c1, by simpa using hcs 0 _ rfl⟩
def GetLoop (k n : Nat) (most : Int) (cells : List Value) (w : World) (s8 s9 : Value) (wr : World) : Prop :=
  ∃ (i m : Nat) (A : Option Addr) (c : Nat), s8 = .slice A m c ∧ s9 = .int .i64 (i : Int) ∧ k + m = i ∧ i ≤ n ∧ (m ≤ most.toNat) ∧ wr.ownsRow w.heap.size 30 1 (.slice A m c) m ((cells.drop k).take m) ∧ Below w.heap.size w wr
set_option maxHeartbeats 4000000 in
theorem refget_any {S : Nat → Prop} {g first : Nat} {l : List (List UInt8)} (fr most : Int) (w : World) (h : ModAt 28 S g first l w) (hf : first ≤ 140737488355328) (hl : l.length ≤ 4398046511104) :
    Calls Try.prog 16 #[.pointer (some ⟨g, 0, none⟩), .int .i64 fr, .int .i64 most] w (RetGetR S (getL fr most first l) (getOK fr first l.length) w) := by
  obtain ⟨R, cr, cells, h1, h2, h3, h4, h5⟩ := id h
  have hgl := (Array.getElem?_eq_some_iff.1 h1).1
  have hS : ∀ W', Below w.heap.size w W' → W'.cell? ⟨g, 0, none⟩ = some (.int .i64 (first : Int)) ∧ W'.cell? ⟨g, 1, none⟩ = some (.slice R l.length cr) := fun W' hb => ⟨(mod_cells ((hb.block g hgl).trans h1)).1, (mod_cells ((hb.block g hgl).trans h1)).2.1⟩
  have k0 := (hS w (Below.refl _ _)).1
  have k1 := (hS w (Below.refl _ _)).2
  have HS := Lib.hid hS
  have HNX := Lib.hid (fun W (hb : Below w.heap.size w W) => refnext_any W (h.below hb) hf (by omega))
  have H3 := Lib.hid h3
  have H5 := Lib.hid h5
  obtain ⟨n, hn⟩ : ∃ n, l.length = n := ⟨_, rfl⟩
  have HN := Lib.hid hn
  rw [hn] at HNX HS H3 k1 hl ⊢
  clear h h1 h2 h3 h4 h5 hS hn
  by_cases c1 : (first : Int) ≤ fr
  · by_cases c2 : fr ≤ (first : Int) + (n : Int)
    · have hok : getOK fr first n = true := by simp [getOK]; omega
      have HV : Hid (getL fr most first l = (l.drop (fr - first).toNat).take most.toNat) := Lib.hid (by unfold getL; rw [HN.out, if_pos hok])
      rw [HV.out, hok]
      obtain ⟨k, hk⟩ : ∃ k : Nat, fr = (first : Int) + (k : Int) := ⟨(fr - first).toNat, by omega⟩
      subst hk
      have ek : ((first : Int) + (k : Int) - (first : Int)).toNat = k := by omega
      rw [ek]
      have hkn : k ≤ n := by omega
      have e1 : ¬ (first : Int) + (k : Int) < (first : Int) := by omega
      have e2 : ¬ (first : Int) + (n : Int) < (first : Int) + (k : Int) := by omega
      have e3 : (first : Int) + (k : Int) - (first : Int) = (k : Int) := by omega
      have e5 : ¬ n < k := by omega
      have HST : Hid (∀ W, Below w.heap.size w W → GetLoop k n most cells w (.slice none 0 0) (.int .i64 (k : Int)) W) := Lib.hid fun W hb => ⟨k, 0, none, 0, rfl, rfl, rfl, hkn, Nat.zero_le _, ⟨by simp, .inl ⟨rfl, rfl⟩⟩, hb⟩
      clear HV ek hok c1 c2
      go_enter Try.func16, Try.ntmps16
      go_wp2_with (first
        | (go_at_call 20; refine (HNX.out _ (Below.refl _ _)).mono ?_; rintro e w1 ⟨rfl, hb1⟩; have m0 := (HS.out w1 hb1).1; have m1 := (HS.out w1 hb1).2)
        | fail)
      go_loopw [8, 9] (fun s8 s9 wr => GetLoop k n most cells w s8 s9 wr) (fun _ s9 _ => n - (intOf s9).toNat)
      case atStart => exact HST.out _ hb1
      case round =>
        clear m0 m1 hb1
        obtain ⟨i, m, A, c, rfl, rfl, him, hin, hmm, ho, hb⟩ := hrel
        have m0 := (HS.out wr hb).1
        have m1 := (HS.out wr hb).2
        have HO := Lib.hid ho
        have HB := Lib.hid hb
        have HIM := Lib.hid him
        by_cases hi : i < n
        · have hii : (i : Int) < (n : Int) := by omega
          by_cases hmo : (m : Int) < most
          · have hq := H3.out.keep hb
            obtain ⟨gr, o, cap, hv, _, _, _, _, hcells⟩ := hq.some_of (by omega)
            cases hv
            have hcl : i < cells.length := by have := H3.out.1; omega
            obtain ⟨A1, q1, c1, hu⟩ := cell_get H5.out HN.out hi
            have hc := hcells i _ hu
            have hone := recs_one H5.out _ (List.mem_of_getElem? hu)
            have HTK : Hid ((cells.drop k).take (m + 1) = (cells.drop k).take m ++ [.slice A1 q1 c1]) := Lib.hid (by
              rw [List.take_add_one, List.getElem?_drop, HIM.out, hu]
              rfl)
            have hmb : m ≤ n := by omega
            clear hq hcells hcl hu ho hb him
            go_wp2_with (first
              | (refine wpList_append_sees rfl (.tmp 43) (.tmp 51) 26 (by rfl) w.heap.size 30 (.slice none 0 0) 1 24 Try.underlying26 infoBytes rfl (by decide) (.slice A m c) m ((cells.drop k).take m) (by rfl) (by exact own_alloc' HO.out _) (some ⟨wr.heap.size, 0, none⟩) 1 1 [.slice A1 q1 c1] (by rfl) (by rfl) (by exact sees_new _ _ _) (by simp [Value.oneCell']) (by simp only [maxLen]; omega) (by omega) (by exact Nat.le_trans HB.out.size (by simp)) ?_; intro A4 c4 w4 ho4 hg4 ha4; have HO4 := Lib.hid ho4; have HB4 : Hid (Below w.heap.size w w4) := Lib.hid (below_grown_own (HB.out.alloc HB.out.size _) (Nat.le_trans HB.out.size (by simp)) (own_alloc' HO.out _) (Nat.le_refl _) hg4); clear ho4 hg4 ha4)
              | fail)
            go_roundw
            case rel =>
              refine ⟨i + 1, m + 1, A4, c4, rfl, by go_num, by have := HIM.out; omega, hi, by omega, ?_, HB4.out⟩
              rw [HTK.out]
              exact HO4.out
            case measure => simp [intOf] <;> omega
          · go_wp2_with fail
            go_ret2
            exact ⟨A, m, c, _, rfl, get_len HN.out HIM.out hin hmm (.inr (by omega)), HO.out, get_recs HN.out H5.out HB.out HIM.out hin hmm (.inr (by omega)), HB.out⟩
        · have hii : ¬ (i : Int) < (n : Int) := by omega
          go_wp2_with fail
          go_ret2
          exact ⟨A, m, c, _, rfl, get_len HN.out HIM.out hin hmm (.inl (by omega)), HO.out, get_recs HN.out H5.out HB.out HIM.out hin hmm (.inl (by omega)), HB.out⟩
    · have hok : getOK fr first n = false := by simp [getOK]; omega
      have HV : Hid (getL fr most first l = []) := Lib.hid (by unfold getL; rw [HN.out, hok]; rfl)
      rw [HV.out, hok]
      have e1 : ¬ fr < (first : Int) := by omega
      have e2 : (first : Int) + (n : Int) < fr := by omega
      go_enter Try.func16, Try.ntmps16
      go_wp2_with (first
        | (go_at_call 20; refine (HNX.out _ (Below.refl _ _)).mono ?_; rintro e w1 ⟨rfl, hb1⟩; have m0 := (HS.out w1 hb1).1; have m1 := (HS.out w1 hb1).2)
        | fail)
      go_ret2
      exact ⟨none, 0, 0, [], rfl, rfl, ⟨rfl, .inl ⟨rfl, rfl⟩⟩, Recs.nil, hb1⟩
  · have hok : getOK fr first n = false := by simp [getOK]; omega
    have HV : Hid (getL fr most first l = []) := Lib.hid (by unfold getL; rw [HN.out, hok]; rfl)
    rw [HV.out, hok]
    have e1 : fr < (first : Int) := by omega
    go_enter Try.func16, Try.ntmps16
    go_wp2_with fail
    go_ret2
    exact ⟨none, 0, 0, [], rfl, rfl, ⟨rfl, .inl ⟨rfl, rfl⟩⟩, Recs.nil, Below.refl _ _⟩
end Go.Proofs.Ytbnbeailbhnbdaa
