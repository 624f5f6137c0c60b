/-
  Trim.
-/
import Derived.Test.YtbnbeailbhnbdaaMod2
import Derived.Test.YtbnbeailbhnbdaaCalmO
set_option linter.unusedVariables false
set_option linter.unusedSimpArgs false
namespace Go.Proofs.Ytbnbeailbhnbdaa
open Go.RowKit

def clampN (to : Int) (first n : Nat) : Nat := (min (max to (first : Int)) ((first + n : Nat) : Int)).toNat
theorem clampN_spec (to : Int) (first n : Nat) : first ≤ clampN to first n ∧ clampN to first n ≤ first + n ∧ ((clampN to first n : Nat) : Int) = min (max to (first : Int)) ((first + n : Nat) : Int) := by
  unfold clampN
  omega
theorem trim_slice {w : World} {R : Option Addr} {n cr : Nat} {cells : List Value} (h : ownsQ w 0 30 1 (.slice R n cr) n cells) (k : Nat) (hk : k ≤ n) :
    ∃ X, (if cr = k then R else Option.map (fun x => x.add k) R) = X ∧ (Value.slice X (n - k) (cr - k)).ownBlock = (Value.slice R n cr).ownBlock ∧ ownsQ w 0 30 1 (.slice X (n - k) (cr - k)) (n - k) (cells.drop k) := by
  rcases h.2 with ⟨hv, h0⟩ | ⟨g, o, cap, cur, hv, r⟩
  · cases hv
    obtain rfl : k = 0 := by omega
    exact ⟨none, by simp, rfl, by simpa using h⟩
  · cases hv
    obtain ⟨hg, hh, h3, h4, h5, h6⟩ := r
    have hlen : (cells.drop k).length = (n - k) * 1 := by rw [List.length_drop, h.1, Nat.mul_one, Nat.mul_one]
    by_cases hc : cr = k
    · rw [if_pos hc]
      refine ⟨_, rfl, rfl, hlen, .inr ⟨g, o, cr - k, cur, rfl, hg, hh, by omega, by omega, by omega, ?_⟩⟩
      have h0 : cells.drop k = [] := List.drop_of_length_le (by rw [h.1]; omega)
      rw [h0, show (n - k) * 1 = 0 by omega, List.take_zero]
    · rw [if_neg hc]
      refine ⟨_, rfl, by simp [Value.ownBlock, add_raw], hlen, .inr ⟨g, o + k, cr - k, cur, by simp [add_raw], hg, hh, by omega, by omega, by omega, ?_⟩⟩
      rw [← h6, List.drop_take, List.drop_drop, Nat.mul_one, Nat.mul_one]
theorem trim_done {ty : TypeId} {S : Nat → Prop} {g first : Nat} {l : List (List UInt8)} {w W : World} {R : Option Addr} {cr : Nat} {cells : List Value} {X : Option Addr} {c' t k : Nat}
    (h1 : w.heap[g]? = some (modObj ty first R l.length cr)) (h2 : S g) (h4 : ∀ b, (Value.slice R l.length cr).ownBlock = some b → S b) (h5 : Recs (byRow S) 1 w l cells) (ht1 : 30 ≠ ty) (ht2 : 5 ≠ ty)
    (hX : (Value.slice X (l.length - k) c').ownBlock = (Value.slice R l.length cr).ownBlock) (hq : ownsQ w 0 30 1 (.slice X (l.length - k) c') (l.length - k) (cells.drop k)) (hk : k ≤ l.length) (hB : Below w.heap.size w W) :
    ModAt ty (Plus S w) g t (l.drop k) ((W.setCell ⟨g, 1, none⟩ (.slice X (l.length - k) c')).setCell ⟨g, 0, none⟩ (.int .i64 (t : Int))) ∧ Outside S w ((W.setCell ⟨g, 1, none⟩ (.slice X (l.length - k) c')).setCell ⟨g, 0, none⟩ (.int .i64 (t : Int))) := by
  have hlen : (l.drop k).length = l.length - k := by simp
  have hgl := (Array.getElem?_eq_some_iff.1 h1).1
  have z1 := (hB.block g hgl).trans h1
  have hout : Outside S w ((W.setCell ⟨g, 1, none⟩ (.slice X (l.length - k) c')).setCell ⟨g, 0, none⟩ (.int .i64 (t : Int))) := ((Outside.of_below hB).set ⟨g, 1, none⟩ _ (.inr h2)).set ⟨g, 0, none⟩ _ (.inr h2)
  have hother : ∀ b, b < w.heap.size → b ≠ g → ((W.setCell ⟨g, 1, none⟩ (.slice X (l.length - k) c')).setCell ⟨g, 0, none⟩ (.int .i64 (t : Int))).heap[b]? = w.heap[b]? := fun b hb hne => by
    rw [Below.heap_setCell _ _ _ b hne, Below.heap_setCell _ _ _ b hne]
    exact hB.block b hb
  refine ⟨⟨X, c', cells.drop k, ?_, .inl h2, ?_, ?_, ?_⟩, hout⟩
  · rw [hlen]
    simp [World.setCell, Array.getElem?_modify, z1, modObj]
  · rw [hlen]
    exact q_same hq fun b hb => hother b (q_block_lt hq hb) (fun e => q_apart hq h1 ht1 (by rw [hb, e]))
  · intro b hb
    rw [hlen, hX] at hb
    exact .inl (h4 b hb)
  · have h6 := h5.drop k
    rw [Nat.mul_one] at h6
    refine h6.imp fun j x cs _ hl => ?_
    obtain ⟨A1, c1, e, ho, hs⟩ := hl
    exact ⟨A1, c1, e, own_same ho (fun b hb => hother b (own_block_ge ho b hb).2 (fun e => own_far ho h1 ht2 (by rw [hb, e]))), fun b hb => .inl (hs b hb)⟩
set_option maxHeartbeats 4000000 in
theorem trim_any {S : Nat → Prop} {g first : Nat} {l : List (List UInt8)} (to : Int) (w : World) (h : ModAt 61 S g first l w) (hf : first ≤ 140737488355328) (hl : l.length ≤ 4398046511104) :
    Calls Try.prog 13 #[.pointer (some ⟨g, 0, none⟩), .int .i64 to] w (RetMod 61 S g (clampN to first l.length) (l.drop (clampN to first l.length - first)) ((clampN to first l.length : Nat) : Int) w) := by
  obtain ⟨R, cr, cells, h1, h2, h3, h4, h5⟩ := id h
  obtain ⟨k0, k1, kf⟩ := mod_cells h1
  obtain ⟨q1, q2, q3⟩ := clampN_spec to first l.length
  obtain ⟨t, ht⟩ : ∃ t, clampN to first l.length = t := ⟨_, rfl⟩
  rw [ht] at q1 q2 q3 ⊢
  obtain ⟨k, hk⟩ : ∃ k, t - first = k := ⟨_, rfl⟩
  rw [hk]
  obtain ⟨X, hX, hXb, hq⟩ := trim_slice h3 k (by omega)
  have hkn : k ≤ l.length := by omega
  have hgl := (Array.getElem?_eq_some_iff.1 h1).1
  have hS : ∀ W', Below w.heap.size w W' → W'.cell? ⟨g, 0, none⟩ = some (.int .i64 (first : Int)) ∧ W'.cell? ⟨g, 1, none⟩ = some (.slice R l.length cr) ∧ (∀ j, W'.frozen? ⟨g, j, none⟩ = false) := fun W' hb => mod_cells ((hb.block g hgl).trans h1)
  have HH := Lib.hid h
  have HS := Lib.hid hS
  have HD := Lib.hid (fun W => trim_done (W := W) (t := t) h1 h2 h4 h5 (by decide) (by decide) hXb hq (by omega))
  have ek : (t : Int) - (first : Int) = (k : Int) := by omega
  have HT : Hid ((if (first : Int) + (l.length : Int) < if to < (first : Int) then (first : Int) else to then (first : Int) + (l.length : Int) else if to < (first : Int) then (first : Int) else to) = (t : Int)) := Lib.hid (by
    rw [q3]
    split <;> split at * <;> omega)
  have HNX := Lib.hid (fun W (hb : Below w.heap.size w W) => next_any W (h.below hb) hf (by omega))
  clear h h1 h2 h3 h4 h5 k0 k1 kf hS hXb hq hk ht q3
  go_enter Try.func13, Try.ntmps13
  go_wp2_with fail
  refine wp_region_calm (Later w) (by kernel_rfl) (by kernel_rfl) (Below.refl _ _).drew (fun hne => ?_)
  have c0 := fun p : InS (Later w) => (HS.out p.w p.h).1
  repeat (go_big_quiet_step (first
    | (go_at_call 19; exact calm_of (HNX.out _ (InS.h _)) (by rintro e w' ⟨rfl, hb⟩; exact ⟨rfl, later_step (InS.h _) hb⟩))
    | fail))
  refine wpQuiet_nil ?_
  rintro _ ⟨p, rfl⟩
  rw [HT.out]
  obtain ⟨W, hb⟩ := p
  have HB := Lib.hid hb
  have y0 : W.drew.cell? ⟨g, 0, none⟩ = some (.int .i64 (first : Int)) := (HS.out W.drew hb.drew).1
  have y1 : W.drew.cell? ⟨g, 1, none⟩ = some (.slice R l.length cr) := (HS.out W.drew hb.drew).2.1
  have y2 : W.drew.frozen? ⟨g, 0, none⟩ = false := (HS.out W.drew hb.drew).2.2 0
  have y3 : W.drew.frozen? ⟨g, 1, none⟩ = false := (HS.out W.drew hb.drew).2.2 1
  have z0 : W.cell? ⟨g, 0, none⟩ = some (.int .i64 (first : Int)) := y0
  have z1 : W.cell? ⟨g, 1, none⟩ = some (.slice R l.length cr) := y1
  have z2 : W.frozen? ⟨g, 0, none⟩ = false := y2
  have z3 : W.frozen? ⟨g, 1, none⟩ = false := y3
  have e4 : IntKind.i64.wrap (k : Int) = (k : Int) := IntWalk.i64_in _ (by omega)
  dsimp only
  clear hb c0 hne
  go_wp2_with fail
  all_goals go_region_law (fail)
  all_goals go_wp2
  all_goals go_ret
  all_goals exact ⟨rfl, HD.out W.drew HB.out.drew⟩
end Go.Proofs.Ytbnbeailbhnbdaa
