/-
  The reference's Trim.
-/
import Derived.Test.YtbnbeailbhnbdaaMod3
import Derived.Test.YtbnbeailbhnbdaaMod4
set_option linter.unusedVariables false
set_option linter.unusedSimpArgs false
namespace Go.Proofs.Ytbnbeailbhnbdaa
open Go.RowKit

theorem q_sees {w : World} {base n c size : Nat} {e : TypeId} {A : Option Addr} {xs : List Value} (h : ownsQ w base e size (.slice A n c) n xs) : Sees w A xs := by
  intro j u hj
  rcases h.2 with ⟨hv, h0⟩ | ⟨g, o, cap, cur, hv, hg, hh, h3, h4, h5, h6⟩
  · subst h0
    have : xs = [] := List.eq_nil_of_length_eq_zero (by simpa using h.1)
    subst this
    simp at hj
  · cases hv
    refine ⟨_, rfl, ?_⟩
    rw [add_raw, cell_of_row w g (o + j) cur e (0, 0) hh]
    rw [← h6, List.getElem?_take] at hj
    split at hj
    · rw [List.getElem?_drop] at hj
      simpa using hj
    · cases hj
theorem q_of_own {w : World} {base base' n size : Nat} {e : TypeId} {v : Value} {xs : List Value} (h : w.ownsRow base e size v n xs) (hB : base' ≤ base) : ownsQ w base' e size v n xs := by
  refine ⟨h.1, ?_⟩
  rcases h.2 with h2 | ⟨g, cap, cur, hv, hg, hh, h3, h4, h5, h6⟩
  · exact .inl h2
  · exact .inr ⟨g, 0, cap, cur, hv, Nat.le_trans hB hg, hh, h3, h4, by omega, by simpa using h6⟩
theorem recs_one {S : Nat → Prop} {w : World} {l : List (List UInt8)} {cells : List Value} (h : Recs (byRow S) 1 w l cells) : ∀ u ∈ cells, u.oneCell' = true := by
  obtain ⟨css, rfl, hl, _, hR⟩ := h.all
  intro u hu
  obtain ⟨cs, hcs, huc⟩ := List.mem_flatten.1 hu
  obtain ⟨j, hj, rfl⟩ := List.getElem_of_mem hcs
  obtain ⟨A, c, e, _⟩ := hR j (l[j]'(by omega)) css[j] (List.getElem?_eq_getElem (by omega)) (List.getElem?_eq_getElem hj)
  rw [e] at huc
  simp at huc
  subst huc
  rfl
theorem reftrim_done {ty : TypeId} {S : Nat → Prop} {g first : Nat} {l : List (List UInt8)} {w w4 : World} {R : Option Addr} {cr : Nat} {cells : List Value} {A4 : Option Addr} {c4 t k : Nat}
    (h1 : w.heap[g]? = some (modObj ty first R l.length cr)) (h2 : S g) (h5 : Recs (byRow S) 1 w l cells) (ht1 : 30 ≠ ty) (ht2 : 5 ≠ ty)
    (ho : w4.ownsRow w.heap.size 30 1 (.slice A4 (l.length - k) c4) (l.length - k) (cells.drop k)) (hB : Below w.heap.size w w4) :
    ModAt ty (Plus S w) g t (l.drop k) ((w4.setCell ⟨g, 1, none⟩ (.slice A4 (l.length - k) c4)).setCell ⟨g, 0, none⟩ (.int .i64 (t : Int))) ∧ Outside S w ((w4.setCell ⟨g, 1, none⟩ (.slice A4 (l.length - k) c4)).setCell ⟨g, 0, none⟩ (.int .i64 (t : Int))) := by
  have hlen : (l.drop k).length = l.length - k := by simp
  have hgl := (Array.getElem?_eq_some_iff.1 h1).1
  have z1 := (hB.block g hgl).trans h1
  have hout : Outside S w ((w4.setCell ⟨g, 1, none⟩ (.slice A4 (l.length - k) c4)).setCell ⟨g, 0, none⟩ (.int .i64 (t : Int))) := ((Outside.of_below hB).set ⟨g, 1, none⟩ _ (.inr h2)).set ⟨g, 0, none⟩ _ (.inr h2)
  have hother : ∀ b, b ≠ g → ((w4.setCell ⟨g, 1, none⟩ (.slice A4 (l.length - k) c4)).setCell ⟨g, 0, none⟩ (.int .i64 (t : Int))).heap[b]? = w4.heap[b]? := fun b hne => by
    rw [Below.heap_setCell _ _ _ b hne, Below.heap_setCell _ _ _ b hne]
  have hq : ownsQ w4 0 30 1 (.slice A4 (l.length - k) c4) (l.length - k) (cells.drop k) := q_of_own ho (Nat.zero_le _)
  refine ⟨⟨A4, c4, cells.drop k, ?_, .inl h2, ?_, ?_, ?_⟩, hout⟩
  · rw [hlen]
    simp [World.setCell, Array.getElem?_modify, z1, modObj]
  · rw [hlen]
    exact q_same hq fun b hb => hother b (fun e => q_apart hq z1 ht1 (by rw [hb, e]))
  · intro b hb
    rw [hlen] at hb
    exact .inr (own_block_ge ho b hb).1
  · have h6 := h5.drop k
    rw [Nat.mul_one] at h6
    refine h6.imp fun j x cs _ hl => ?_
    obtain ⟨A1, c1, e, ho, hs⟩ := hl
    exact ⟨A1, c1, e, own_same ho (fun b hb => (hother b (fun e => own_far ho h1 ht2 (by rw [hb, e]))).trans (hB.block b (own_block_ge ho b hb).2)), fun b hb => .inl (hs b hb)⟩
set_option maxHeartbeats 4000000 in
theorem reftrim_any {S : Nat → Prop} {g first : Nat} {l : List (List UInt8)} (to : Int) (w : World) (h : ModAt 28 S g first l w) (hf : first ≤ 140737488355328) (hl : l.length ≤ 4398046511104) :
    Calls Try.prog 14 #[.pointer (some ⟨g, 0, none⟩), .int .i64 to] w (RetMod 28 S g (clampN to first l.length) (l.drop (clampN to first l.length - first)) ((clampN to first l.length : Nat) : Int) w) := by
  have hh := Lib.hid h
  obtain ⟨q1, q2, q3⟩ := clampN_spec to first l.length
  obtain ⟨t, ht⟩ : ∃ t, clampN to first l.length = t := ⟨_, rfl⟩
  rw [ht] at q1 q2 q3 ⊢
  obtain ⟨k, hk⟩ : ∃ k, t - first = k := ⟨_, rfl⟩
  rw [hk]
  have hkn : k ≤ l.length := by omega
  have HS : Hid (∃ R cr, ∀ W', Below w.heap.size w W' → W'.cell? ⟨g, 0, none⟩ = some (.int .i64 (first : Int)) ∧ W'.cell? ⟨g, 1, none⟩ = some (.slice R l.length cr) ∧ (∀ j, W'.frozen? ⟨g, j, none⟩ = false)) := Lib.hid (by
    obtain ⟨R, cr, cells, h1, _⟩ := h
    exact ⟨R, cr, fun W' hb => mod_cells ((hb.block g (Array.getElem?_eq_some_iff.1 h1).1).trans h1)⟩)
  have ek : (t : Int) - (first : Int) = (k : Int) := by omega
  have HT : Hid ((if (first : Int) + (l.length : Int) < if to < (first : Int) then (first : Int) else to then (first : Int) + (l.length : Int) else if to < (first : Int) then (first : Int) else to) = (t : Int)) := Lib.hid (by
    rw [q3]
    split <;> split at * <;> omega)
  have HNX := Lib.hid (fun W (hb : Below w.heap.size w W) => refnext_any W (h.below hb) hf (by omega))
  clear h hk ht q3
  obtain ⟨R0, cr0, hS0⟩ := HS.out
  clear HS
  have HS := Lib.hid hS0
  clear hS0
  go_enter Try.func14, Try.ntmps14
  go_wp2_with fail
  refine wp_region_calm (Later w) (by kernel_rfl) (by kernel_rfl) (Below.refl _ _).drew (fun hne => ?_)
  have c0 := fun p : InS (Later w) => (HS.out p.w p.h).1
  repeat (go_big_quiet_step (first
    | (go_at_call 20; exact calm_of (HNX.out _ (InS.h _)) (by rintro e w' ⟨rfl, hb⟩; exact ⟨rfl, later_step (InS.h _) hb⟩))
    | fail))
  refine wpQuiet_nil ?_
  rintro _ ⟨p, rfl⟩
  rw [HT.out]
  obtain ⟨W, hb⟩ := p
  dsimp only
  clear HS c0 hne
  have hM := hh.out.below hb
  obtain ⟨R, cr, cells, h1, h2, h3, h4, h5⟩ := hM
  have HB := Lib.hid hb
  clear hb
  obtain ⟨X, hX, hXb, hq⟩ := trim_slice h3 k hkn
  have hgl := (Array.getElem?_eq_some_iff.1 h1).1
  have hS : ∀ W', Below W.heap.size W W' → W'.cell? ⟨g, 0, none⟩ = some (.int .i64 (first : Int)) ∧ W'.cell? ⟨g, 1, none⟩ = some (.slice R l.length cr) ∧ (∀ j, W'.frozen? ⟨g, j, none⟩ = false) := fun W' hb => mod_cells ((hb.block g hgl).trans h1)
  have hba0 : Below W.heap.size W (W.alloc (.cells #[] 30)).drew := ((Below.refl W.heap.size W).alloc (Nat.le_refl _) _).drew
  have y0 := (hS W (Below.refl _ _)).1
  have y1 := (hS W (Below.refl _ _)).2.1
  have y2 := (hS W (Below.refl _ _)).2.2
  have z0 := (hS W.drew (Below.refl _ _).drew).1
  have z1 := (hS W.drew (Below.refl _ _).drew).2.1
  have x0 := (hS _ hba0).1
  have x1 := (hS _ hba0).2.1
  have hqs : Sees (W.alloc (.cells #[] 30)).drew X (cells.drop k) := q_sees (hq.keep hba0)
  have hone : ∀ u ∈ cells.drop k, u.oneCell' = true := fun u hu => recs_one h5 u (List.mem_of_mem_drop hu)
  have e4 : IntKind.i64.wrap (k : Int) = (k : Int) := IntWalk.i64_in _ (by omega)
  have hcl : (cells.drop k).length = (l.length - k) * 1 := by rw [List.length_drop, h3.1, Nat.mul_one, Nat.mul_one]
  go_wp2_with fail
  all_goals go_region_law
    (first
      | (refine step_append_sees rfl (.tmp 15) (.tmp 26) 26 (by rfl) W.heap.size 30 (.slice none 0 0) 1 24 Try.underlying26 infoBytes rfl (by decide) (.slice (some ⟨W.heap.size, 0, none⟩) 0 0) 0 [] (by rfl) (by exact own_made0 W _ 1) X (l.length - k) (cr - k) (cells.drop k) (by rfl) hcl (by exact hqs) hone (by simp only [maxLen]; omega) (by omega) (by simp) ?_; intro A4 c4 w4 hown4' hg4 hat4; have hb4 : Below W.heap.size W w4 := below_grown_own hba0 (by simp) (own_made0 W 30 1) (Nat.le_refl _) hg4; have hown4 : w4.ownsRow W.heap.size 30 1 (.slice A4 (l.length - k) c4) (l.length - k) (cells.drop k) := (by simpa using hown4'); have k4 := (hS w4 hb4).2.1; have k5 := (hS w4 hb4).2.2 1; have k6 := (hS w4 hb4).1; have k7 := (hS w4 hb4).2.2 0)
      | fail)
  all_goals (have hd := reftrim_done (t := t) h1 h2 h5 (by decide) (by decide) hown4 hb4; have HD := Lib.hid hd; have HB4 := Lib.hid hb4; clear hd h1 h2 h3 h4 h5 hq hS hba0 hqs hone hcl hown4 hown4' hg4 hat4 hb4)
  all_goals go_wp2
  all_goals go_ret
  all_goals exact ⟨rfl, HD.out.1.mono (fun b hb => hb.imp id (Nat.le_trans HB.out.size)), (Outside.of_below HB.out).trans HD.out.2 (fun b _ hb => hb)⟩
end Go.Proofs.Ytbnbeailbhnbdaa
