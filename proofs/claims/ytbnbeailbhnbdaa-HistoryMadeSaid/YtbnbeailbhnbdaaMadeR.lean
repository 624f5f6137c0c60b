/-
  The reference's Put and Trim, once more: they leave the bytes that lie there.
-/
import Derived.Test.YtbnbeailbhnbdaaModB
import Derived.Test.YtbnbeailbhnbdaaModA
set_option linter.unusedVariables false
set_option linter.unusedSimpArgs false
namespace Go.Proofs.Ytbnbeailbhnbdaa
open Go.RowKit

/-- A block of bytes. -/
def IsU8 (w : World) (b : Nat) : Prop := ∃ cs, w.heap[b]? = some (.cells cs 5 (0, 0))
/-- An answer, the model as it then is; the bytes lie as they lay. -/
def RetMod2 (ty : TypeId) (S : Nat → Prop) (g first : Nat) (l : List (List UInt8)) (v : Int) (w : World) (e : Ending) (w' : World) : Prop := e = .returned (.int .i64 v) ∧ ModAt ty (Plus S w) g first l w' ∧ Outside (fun b => S b ∧ ¬ IsU8 w b) w w'
theorem far_of {S : Nat → Prop} {w W : World} (h : Outside S w W) (hu : ∀ b, IsU8 w b → W.heap[b]? = w.heap[b]?) : Outside (fun b => S b ∧ ¬ IsU8 w b) w W :=
  ⟨h.os, h.tape, h.output, h.size, fun b hb hs => by
    by_cases h1 : S b
    · by_cases h2 : IsU8 w b
      · exact hu b h2
      · exact absurd ⟨h1, h2⟩ hs
    · exact h.block b hb h1⟩
theorem far_after {S : Nat → Prop} {w W W' : World} (hb : Below w.heap.size w W) (h : Outside (fun b => S b ∧ ¬ IsU8 W b) W W') : Outside (fun b => S b ∧ ¬ IsU8 w b) w W' := by
  refine (Outside.of_below hb).trans h (fun b hlt hs => ⟨hs.1, fun hu => hs.2 ?_⟩)
  obtain ⟨cs, hc⟩ := hu
  exact ⟨cs, (hb.block b hlt).trans hc⟩
theorem put_far {ty : TypeId} {S : Nat → Prop} {g first n : Nat} {w W w4 w6 : World} {R : Option Addr} {cr : Nat} {cells : List Value} {A4 : Option Addr} {q c4 : Nat} {v : Value}
    (h1 : w.heap[g]? = some (modObj ty first R n cr)) (h3 : ownsQ w 0 30 1 (.slice R n cr) n cells) (ht1 : 30 ≠ 5) (ht2 : 5 ≠ ty)
    (hBW : Below w.heap.size w W) (hb4 : Below W.heap.size W w4) (hg6 : (w4.alloc (.cells #[.slice A4 q c4] 30)).grownBy w6 (Value.slice R n cr).ownBlock)
    (ho : Outside S w (w6.setCell ⟨g, 1, none⟩ v)) : Outside (fun b => S b ∧ ¬ IsU8 w b) w (w6.setCell ⟨g, 1, none⟩ v) := by
  refine far_of ho fun b hu => ?_
  obtain ⟨cs, hc⟩ := hu
  have hlt := (Array.getElem?_eq_some_iff.1 hc).1
  have hB4 := below_step hBW hBW.size hb4
  have hba := hB4.alloc hB4.size (.cells #[.slice A4 q c4] 30)
  rw [Below.heap_setCell w6 ⟨g, 1, none⟩ _ b (fun e => by
    have e2 : b = g := e
    rw [e2, h1] at hc
    unfold modObj at hc
    injection hc with hc
    injection hc with _ ht
    exact ht2 ht.symm)]
  exact (hg6.block b (Nat.lt_of_lt_of_le hlt hba.size) (fun e => q_apart h3 hc ht1 e.symm)).trans (hba.block b hlt)
theorem trim_far {ty : TypeId} {S : Nat → Prop} {g first n t : Nat} {w w4 : World} {R : Option Addr} {cr : Nat} {v : Value}
    (h1 : w.heap[g]? = some (modObj ty first R n cr)) (ht2 : 5 ≠ ty) (hB : Below w.heap.size w w4)
    (ho : Outside S w ((w4.setCell ⟨g, 1, none⟩ v).setCell ⟨g, 0, none⟩ (.int .i64 (t : Int)))) : Outside (fun b => S b ∧ ¬ IsU8 w b) w ((w4.setCell ⟨g, 1, none⟩ v).setCell ⟨g, 0, none⟩ (.int .i64 (t : Int))) := by
  refine far_of ho fun b hu => ?_
  obtain ⟨cs, hc⟩ := hu
  have hlt := (Array.getElem?_eq_some_iff.1 hc).1
  have hne : b ≠ g := fun e => by
    rw [e, h1] at hc
    unfold modObj at hc
    injection hc with hc
    injection hc with _ ht
    exact ht2 ht.symm
  rw [Below.heap_setCell _ _ _ b hne, Below.heap_setCell _ _ _ b hne]
  exact hB.block b hlt
set_option maxHeartbeats 4000000 in
theorem refput2_any {S : Nat → Prop} {g first : Nat} {l : List (List UInt8)} (A : Option Addr) (bs : List UInt8) (c : Nat) (w : World) (h : ModAt 28 S g first l w) (hf : first ≤ 140737488355328) (hl : l.length ≤ 4398046511104) (hc : bs.length ≤ c) (hbl : bs.length ≤ 140737488355328) (hA : Sees w A (u8s bs)) :
    Calls Try.prog 12 #[.pointer (some ⟨g, 0, none⟩), .slice A bs.length c] w (RetMod2 28 S g first (l ++ [bs]) ((first + l.length : Nat) : Int) w) := by
  obtain ⟨R, cr, cells, h1, h2, h3, h4, h5⟩ := id h
  obtain ⟨k0, k1, kf⟩ := mod_cells h1
  have hgl := (Array.getElem?_eq_some_iff.1 h1).1
  have hS : ∀ W', Below w.heap.size w W' → W'.cell? ⟨g, 1, none⟩ = some (.slice R l.length cr) := fun W' hb => (hb.cell (World.block_lt_of_cell? _ _ k1)).trans k1
  have hba0 : Below w.heap.size w (w.alloc (.cells #[] 5)).drew := ((Below.refl w.heap.size w).alloc (Nat.le_refl _) _).drew
  have k2 := hS w.drew (Below.refl _ _).drew
  have k3 := hS _ hba0
  have hn1 := Lib.hid h
  go_enter Try.func12, Try.ntmps12
  go_wp2_with fail
  go_region_law
    (first
      | (refine step_append_sees rfl (.tmp 10) (.tmp 11) 30 (by rfl) w.heap.size 5 (.int .u8 0) 1 1 Try.underlying30 infoU8 rfl (by decide) (.slice (some ⟨w.heap.size, 0, none⟩) 0 0) 0 [] (by rfl) (by exact own_made0 w _ 1) A bs.length c (u8s bs) (by rfl) (by simp [u8s]) (by exact hA.below hba0) (u8s_one _) (by simp only [maxLen]; omega) (by omega) (by simp) ?_; intro A4 c4 w4 hown4' hg4 hat4; have hb4 : Below w.heap.size w w4 := below_grown_own hba0 (by simp) (own_made0 w 5 1) (Nat.le_refl _) hg4; have hown4 : w4.ownsRow w.heap.size 5 1 (.slice A4 bs.length c4) bs.length (u8s bs) := (by simpa using hown4'); have k4 := hS w4 hb4; have k5 := hS _ (hb4.alloc hb4.size (.cells #[.slice A4 bs.length c4] 30)))
      | (refine step_append_q rfl (.tmp 9) (.tmp 13) 26 (by rfl) 0 30 (.slice none 0 0) 1 24 Try.underlying26 infoBytes rfl (by decide) (.slice R l.length cr) l.length cells (by rfl) (by exact (h3.keep hb4).keep ((Below.refl _ _).alloc (Nat.le_refl _) _)) ⟨w4.heap.size, 0, none⟩ 1 1 [.slice A4 bs.length c4] (by rfl) (by rfl) (by exact sees_new _ _ _) (by simp [Value.oneCell']) (by decide) (by simp only [maxLen]; omega) (by omega) (Nat.zero_le _) ?_; intro A6 c6 w6 hown6 hg6 hat6; have hba := hb4.alloc hb4.size (.cells #[.slice A4 bs.length c4] 30); have hza := hba.size; have z1 : w6.heap[g]? = some (modObj 28 first R l.length cr) := (hg6.block g (Nat.lt_of_lt_of_le hgl hza) (fun e => q_apart h3 h1 (by decide) e.symm)).trans ((hba.block g hgl).trans h1); have z2 := (mod_cells z1).2.1; have z3 := (mod_cells z1).2.2 1)
      | fail)
  all_goals (have hd := put_done h1 h2 h3 h4 h5 (by decide) (by decide) (Below.refl _ _) hb4 hown4 hown6 hg6 hat6 z1)
  all_goals (have hfar := put_far h1 h3 (by decide) (by decide) (Below.refl _ _) hb4 hg6 hd.2)
  all_goals (have HD := Lib.hid hd; have HFAR := Lib.hid hfar; clear hfar hd h1 h2 h3 h4 h5 k0 k1 k2 k3 k4 k5 kf hS hown4 hown4' hown6 hb4 hg4 hat4 hg6 hat6 hba hza z1 z2 z3 hA hba0)
  all_goals go_wp2_with (first
    | (go_at_call 20; refine (refnext_any _ HD.out.1 hf (by simp only [List.length_append, List.length_cons, List.length_nil]; omega)).mono ?_; rintro e w7 ⟨rfl, hb7⟩; rw [show ((first + (l ++ [bs]).length : Nat) : Int) = ((first + l.length : Nat) : Int) + 1 by simp only [List.length_append, List.length_cons, List.length_nil]; omega])
    | fail)
  all_goals go_ret
  all_goals (refine ⟨by simp, HD.out.1.below hb7, HFAR.out.trans (Outside.of_below hb7) (fun b _ hb => hb)⟩)
set_option maxHeartbeats 4000000 in
theorem reftrim2_any {S : Nat → Prop} {g first : Nat} {l : List (List UInt8)} (to : Int) (w : World) (h : ModAt 28 S g first l w) (hf : first ≤ 140737488355328) (hl : l.length ≤ 4398046511104) :
    Calls Try.prog 14 #[.pointer (some ⟨g, 0, none⟩), .int .i64 to] w (RetMod2 28 S g (clampN to first l.length) (l.drop (clampN to first l.length - first)) ((clampN to first l.length : Nat) : Int) w) := by
  have hh := Lib.hid h
  obtain ⟨q1, q2, q3⟩ := clampN_spec to first l.length
  obtain ⟨t, ht⟩ : ∃ t, clampN to first l.length = t := ⟨_, rfl⟩
  rw [ht] at q1 q2 q3 ⊢
  obtain ⟨k, hk⟩ : ∃ k, t - first = k := ⟨_, rfl⟩
  rw [hk]
  have hkn : k ≤ l.length := by omega
  have HS : Hid (∃ R cr, ∀ W', Below w.heap.size w W' → W'.cell? ⟨g, 0, none⟩ = some (.int .i64 (first : Int)) ∧ W'.cell? ⟨g, 1, none⟩ = some (.slice R l.length cr) ∧ (∀ j, W'.frozen? ⟨g, j, none⟩ = false)) := Lib.hid (by
    obtain ⟨R, cr, cells, h1, _⟩ := h
    exact ⟨R, cr, fun W' hb => mod_cells ((hb.block g (Array.getElem?_eq_some_iff.1 h1).1).trans h1)⟩)
  have ek : (t : Int) - (first : Int) = (k : Int) := by omega
  have HT : Hid ((if (first : Int) + (l.length : Int) < if to < (first : Int) then (first : Int) else to then (first : Int) + (l.length : Int) else if to < (first : Int) then (first : Int) else to) = (t : Int)) := Lib.hid (by
    rw [q3]
    split <;> split at * <;> omega)
  have HNX := Lib.hid (fun W (hb : Below w.heap.size w W) => refnext_any W (h.below hb) hf (by omega))
  clear h hk ht q3
  obtain ⟨R0, cr0, hS0⟩ := HS.out
  clear HS
  have HS := Lib.hid hS0
  clear hS0
  go_enter Try.func14, Try.ntmps14
  go_wp2_with fail
  refine wp_region_calm (Later w) (by kernel_rfl) (by kernel_rfl) (Below.refl _ _).drew (fun hne => ?_)
  have c0 := fun p : InS (Later w) => (HS.out p.w p.h).1
  repeat (go_big_quiet_step (first
    | (go_at_call 20; exact calm_of (HNX.out _ (InS.h _)) (by rintro e w' ⟨rfl, hb⟩; exact ⟨rfl, later_step (InS.h _) hb⟩))
    | fail))
  refine wpQuiet_nil ?_
  rintro _ ⟨p, rfl⟩
  rw [HT.out]
  obtain ⟨W, hb⟩ := p
  dsimp only
  clear HS c0 hne
  have hM := hh.out.below hb
  obtain ⟨R, cr, cells, h1, h2, h3, h4, h5⟩ := hM
  have HB := Lib.hid hb
  clear hb
  obtain ⟨X, hX, hXb, hq⟩ := trim_slice h3 k hkn
  have hgl := (Array.getElem?_eq_some_iff.1 h1).1
  have hS : ∀ W', Below W.heap.size W W' → W'.cell? ⟨g, 0, none⟩ = some (.int .i64 (first : Int)) ∧ W'.cell? ⟨g, 1, none⟩ = some (.slice R l.length cr) ∧ (∀ j, W'.frozen? ⟨g, j, none⟩ = false) := fun W' hb => mod_cells ((hb.block g hgl).trans h1)
  have hba0 : Below W.heap.size W (W.alloc (.cells #[] 30)).drew := ((Below.refl W.heap.size W).alloc (Nat.le_refl _) _).drew
  have y0 := (hS W (Below.refl _ _)).1
  have y1 := (hS W (Below.refl _ _)).2.1
  have y2 := (hS W (Below.refl _ _)).2.2
  have z0 := (hS W.drew (Below.refl _ _).drew).1
  have z1 := (hS W.drew (Below.refl _ _).drew).2.1
  have x0 := (hS _ hba0).1
  have x1 := (hS _ hba0).2.1
  have hqs : Sees (W.alloc (.cells #[] 30)).drew X (cells.drop k) := q_sees (hq.keep hba0)
  have hone : ∀ u ∈ cells.drop k, u.oneCell' = true := fun u hu => recs_one h5 u (List.mem_of_mem_drop hu)
  have e4 : IntKind.i64.wrap (k : Int) = (k : Int) := IntWalk.i64_in _ (by omega)
  have hcl : (cells.drop k).length = (l.length - k) * 1 := by rw [List.length_drop, h3.1, Nat.mul_one, Nat.mul_one]
  go_wp2_with fail
  all_goals go_region_law
    (first
      | (refine step_append_sees rfl (.tmp 15) (.tmp 26) 26 (by rfl) W.heap.size 30 (.slice none 0 0) 1 24 Try.underlying26 infoBytes rfl (by decide) (.slice (some ⟨W.heap.size, 0, none⟩) 0 0) 0 [] (by rfl) (by exact own_made0 W _ 1) X (l.length - k) (cr - k) (cells.drop k) (by rfl) hcl (by exact hqs) hone (by simp only [maxLen]; omega) (by omega) (by simp) ?_; intro A4 c4 w4 hown4' hg4 hat4; have hb4 : Below W.heap.size W w4 := below_grown_own hba0 (by simp) (own_made0 W 30 1) (Nat.le_refl _) hg4; have hown4 : w4.ownsRow W.heap.size 30 1 (.slice A4 (l.length - k) c4) (l.length - k) (cells.drop k) := (by simpa using hown4'); have k4 := (hS w4 hb4).2.1; have k5 := (hS w4 hb4).2.2 1; have k6 := (hS w4 hb4).1; have k7 := (hS w4 hb4).2.2 0)
      | fail)
  all_goals (have hd := reftrim_done (t := t) h1 h2 h5 (by decide) (by decide) hown4 hb4; have hfar := trim_far (t := t) h1 (by decide) hb4 hd.2; have HFAR := Lib.hid hfar; have HD := Lib.hid hd; have HB4 := Lib.hid hb4; clear hfar hd h1 h2 h3 h4 h5 hq hS hba0 hqs hone hcl hown4 hown4' hg4 hat4 hb4)
  all_goals go_wp2
  all_goals go_ret
  all_goals exact ⟨rfl, HD.out.1.mono (fun b hb => hb.imp id (Nat.le_trans HB.out.size)), far_after HB.out HFAR.out⟩
end Go.Proofs.Ytbnbeailbhnbdaa
