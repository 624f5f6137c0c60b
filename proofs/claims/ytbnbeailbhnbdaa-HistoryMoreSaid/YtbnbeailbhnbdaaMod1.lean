/-
  Models in memory: Start, Next, New, Trim.
-/
import Derived.Test.YtbnbeailbhnbdaaQueue
import Derived.Test.YtbnbeailbhnbdaaClone
import Derived.Test.YtbnbeailbhnbdaaStep
import Derived.Test.YtbnbeailbhnbdaaOut
set_option linter.unusedVariables false
set_option linter.unusedSimpArgs false
namespace Go.Proofs.Ytbnbeailbhnbdaa
open Go.RowKit

/-- l[k:]. -/
theorem ownsQ.drop {w : World} {base n size : Nat} {e : TypeId} {v : Value} {xs : List Value} {P : Program} (t : TypeId) (ht : P.underlying t = some (.slice (P.elem t))) (hs : (P.info? (P.elem t)).map (·.size) = some size) {g o cap : Nat} (h : ownsQ w base e size (.slice (some ⟨g, o, none⟩) n cap) n xs) (k : Nat) (hk : k ≤ n) :
    ∃ X, (∀ W : World, (Instr.slice t (.slice (some ⟨g, o, none⟩) n cap) (some (.int .i64 (k : Int))) none none).run P W = .ok (.slice (some X) (n - k) (cap - k)) W) ∧ X.block = g ∧ ownsQ w base e size (.slice (some X) (n - k) (cap - k)) (n - k) (xs.drop (k * size)) := by
  obtain ⟨X, hX, eX⟩ := slice_from (P := P) t size ht hs ⟨g, o, none⟩ n cap k (k : Int) rfl hk
  have hlen : (xs.drop (k * size)).length = (n - k) * size := by rw [List.length_drop, h.1, Nat.sub_mul]
  rcases h.2 with ⟨hv, _⟩ | ⟨g', o', cap', cur, hv, hg, hh, h3, h4, h5, h6⟩
  · cases hv
  · cases hv
    by_cases hc : cap = k
    · rw [if_pos hc] at eX
      refine ⟨X, hX, by rw [eX], hlen, .inr ⟨g, o, cap - k, cur, by rw [eX], hg, hh, by omega, by omega, by rw [hc, Nat.sub_self, Nat.zero_mul]; omega, ?_⟩⟩
      have hn : n = k := by omega
      have h0 : xs.drop (k * size) = [] := List.drop_of_length_le (by rw [h.1, hn]; exact Nat.le_refl _)
      rw [h0, hn, Nat.sub_self, Nat.zero_mul, List.take_zero]
    · rw [if_neg hc, add_raw] at eX
      refine ⟨X, hX, by rw [eX], hlen, .inr ⟨g, o + k * size, cap - k, cur, by rw [eX], hg, hh, by omega, by omega, ?_, ?_⟩⟩
      · have : cap * size = (cap - k) * size + k * size := by rw [← Nat.add_mul]; congr 1; omega
        omega
      · rw [← h6, List.drop_take, List.drop_drop, Nat.sub_mul]
/-- A row of bytes in memory, in a row of its own among the blocks of S. -/
def byRow (S : Nat → Prop) (W : World) (b : List UInt8) (cs : List Value) : Prop :=
  ∃ A c, cs = [.slice A b.length c] ∧ W.ownsRow 0 5 1 (.slice A b.length c) b.length (u8s b) ∧ ∀ k, (Value.slice A b.length c).ownBlock = some k → S k
def modObj (ty : TypeId) (first : Nat) (A : Option Addr) (n c : Nat) : Obj := .cells #[.int .i64 (first : Int), .slice A n c] ty (0, 0)
/-- A model in memory, in the blocks of S. -/
def ModAt (ty : TypeId) (S : Nat → Prop) (g first : Nat) (l : List (List UInt8)) (W : World) : Prop :=
  ∃ A c cells, W.heap[g]? = some (modObj ty first A l.length c) ∧ S g ∧ ownsQ W 0 30 1 (.slice A l.length c) l.length cells ∧ (∀ b, (Value.slice A l.length c).ownBlock = some b → S b) ∧ Recs (byRow S) 1 W l cells
section
variable {ty : TypeId} {S : Nat → Prop} {g first : Nat} {l : List (List UInt8)} {W W' : World}
theorem mod_cells {A : Option Addr} {n c : Nat} (h : W.heap[g]? = some (modObj ty first A n c)) : W.cell? ⟨g, 0, none⟩ = some (.int .i64 (first : Int)) ∧ W.cell? ⟨g, 1, none⟩ = some (.slice A n c) ∧ ∀ j, W.frozen? ⟨g, j, none⟩ = false := by
  unfold modObj at h
  refine ⟨by rw [cell_of_row W g 0 _ _ _ h]; rfl, by rw [cell_of_row W g 1 _ _ _ h]; rfl, fun j => by simp [World.frozen?, h]⟩
theorem q_block_lt {base n size : Nat} {e : TypeId} {v : Value} {xs : List Value} (h : ownsQ W base e size v n xs) {b : Nat} (hb : v.ownBlock = some b) : b < W.heap.size := by
  rcases h.2 with ⟨rfl, _⟩ | ⟨g, o, cap, cur, rfl, _, hh, _⟩
  · simp [Value.ownBlock] at hb
  · simp [Value.ownBlock] at hb
    subst hb
    exact (Array.getElem?_eq_some_iff.1 hh).1
theorem q_same {base n size : Nat} {e : TypeId} {v : Value} {xs : List Value} (h : ownsQ W base e size v n xs) (hb : ∀ b, v.ownBlock = some b → W'.heap[b]? = W.heap[b]?) : ownsQ W' base e size v n xs := by
  refine ⟨h.1, ?_⟩
  rcases h.2 with h2 | ⟨g, o, cap, cur, rfl, hg, hh, r⟩
  · exact .inl h2
  · exact .inr ⟨g, o, cap, cur, rfl, hg, (hb g rfl).trans hh, r⟩
theorem ModAt.keep (h : ModAt ty S g first l W) (hk : ∀ b, b < W.heap.size → S b → W'.heap[b]? = W.heap[b]?) : ModAt ty S g first l W' := by
  obtain ⟨A, c, cells, h1, h2, h3, h4, h5⟩ := h
  refine ⟨A, c, cells, (hk g (Array.getElem?_eq_some_iff.1 h1).1 h2).trans h1, h2, q_same h3 (fun b hb => hk b (q_block_lt h3 hb) (h4 b hb)), h4, h5.imp fun j x cs _ hl => ?_⟩
  obtain ⟨A1, c1, e, ho, hs⟩ := hl
  exact ⟨A1, c1, e, own_same ho (fun b hb => hk b (own_block_ge ho b hb).2 (hs b hb)), hs⟩
theorem ModAt.below (h : ModAt ty S g first l W) (hb : Below W.heap.size W W') : ModAt ty S g first l W' := h.keep fun b hlt _ => hb.block b hlt
theorem ModAt.mono {T : Nat → Prop} (h : ModAt ty S g first l W) (hT : ∀ b, S b → T b) : ModAt ty T g first l W := by
  obtain ⟨A, c, cells, h1, h2, h3, h4, h5⟩ := h
  refine ⟨A, c, cells, h1, hT g h2, h3, fun b hb => hT b (h4 b hb), h5.imp fun j x cs _ hl => ?_⟩
  obtain ⟨A1, c1, e, ho, hs⟩ := hl
  exact ⟨A1, c1, e, ho, fun b hb => hT b (hs b hb)⟩
end
theorem start_any {S : Nat → Prop} {g first : Nat} {l : List (List UInt8)} (w : World) (h : ModAt 61 S g first l w) :
    Calls Try.prog 18 #[.pointer (some ⟨g, 0, none⟩)] w fun e w' => e = .returned (.int .i64 (first : Int)) ∧ w = w' := by
  obtain ⟨A, c, cells, h1, _⟩ := h
  obtain ⟨k0, k1, _⟩ := mod_cells h1
  clear h1
  go_enter Try.func18, Try.ntmps18
  go_wp2
  go_ret
  exact ⟨rfl, rfl⟩
theorem next_any {S : Nat → Prop} {g first : Nat} {l : List (List UInt8)} (w : World) (h : ModAt 61 S g first l w) (hf : first ≤ 140737488355328) (hl : l.length ≤ 140737488355328) :
    Calls Try.prog 19 #[.pointer (some ⟨g, 0, none⟩)] w fun e w' => e = .returned (.int .i64 ((first + l.length : Nat) : Int)) ∧ Below w.heap.size w w' := by
  obtain ⟨A, c, cells, h1, _⟩ := h
  obtain ⟨k0, k1, _⟩ := mod_cells h1
  obtain ⟨n, hn⟩ : ∃ n, l.length = n := ⟨_, rfl⟩
  rw [hn] at k1 hl ⊢
  have d0 : w.drew.cell? ⟨g, 0, none⟩ = some (.int .i64 (first : Int)) := k0
  have d1 : w.drew.cell? ⟨g, 1, none⟩ = some (.slice A n c) := k1
  have e1 : IntKind.i64.wrap ((first : Int) + (n : Int)) = (first : Int) + (n : Int) := IntWalk.i64_in _ (by omega)
  clear h1 hn
  go_enter Try.func19, Try.ntmps19
  go_wp2_with fail
  go_quiet (fail)
  go_wp2_with fail
  go_ret
  exact ⟨by simp, below_draws (Below.refl _ _) nq⟩
theorem refnext_any {S : Nat → Prop} {g first : Nat} {l : List (List UInt8)} (w : World) (h : ModAt 28 S g first l w) (hf : first ≤ 140737488355328) (hl : l.length ≤ 140737488355328) :
    Calls Try.prog 20 #[.pointer (some ⟨g, 0, none⟩)] w fun e w' => e = .returned (.int .i64 ((first + l.length : Nat) : Int)) ∧ Below w.heap.size w w' := by
  obtain ⟨A, c, cells, h1, _⟩ := h
  obtain ⟨k0, k1, _⟩ := mod_cells h1
  obtain ⟨n, hn⟩ : ∃ n, l.length = n := ⟨_, rfl⟩
  rw [hn] at k1 hl ⊢
  have d0 : w.drew.cell? ⟨g, 0, none⟩ = some (.int .i64 (first : Int)) := k0
  have d1 : w.drew.cell? ⟨g, 1, none⟩ = some (.slice A n c) := k1
  have e1 : IntKind.i64.wrap ((first : Int) + (n : Int)) = (first : Int) + (n : Int) := IntWalk.i64_in _ (by omega)
  clear h1 hn
  go_enter Try.func20, Try.ntmps20
  go_wp2_with fail
  go_quiet (fail)
  go_wp2_with fail
  go_ret
  exact ⟨by simp, below_draws (Below.refl _ _) nq⟩
end Go.Proofs.Ytbnbeailbhnbdaa
