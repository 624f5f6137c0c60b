/-
  knows.
-/
import Derived.Test.YtbnbeailbhnbdaaLeg2
set_option linter.unusedVariables false
set_option linter.unusedSimpArgs false
namespace Go.Proofs.Ytbnbeailbhnbdaa
open Go.RowKit

theorem num_any (v : Int) (w : World) : Calls Try.prog 23 #[.int .i64 v] w fun e w' => e = .returned (.int .i64 v) ∧ w = w' := by
  go_enter Try.func23, Try.ntmps23
  go_wp2
  go_ret
  exact ⟨rfl, rfl⟩
instance (n : Nat) (os : List Int) : Decidable (ordP n os) := by unfold ordP; infer_instance
instance (cs : List CV) (os : List Int) : Decidable (ansP cs os) := by unfold ansP; infer_instance
instance (cs : List CV) (os : List Int) : Decidable (lateP cs os) := by unfold lateP; infer_instance
/-- The two calls. -/
def kn0 (d r : Value) : Full := (⟨0, 1, 2, 1, 0, true, 0, 0, 0, 0, d, r⟩, [7], [])
def kn1 (d r : Value) : Full := (⟨1, 3, 4, 2, 0, true, 0, 9, 1, 0, d, r⟩, [], [[7]])
def kn (d r d' r' : Value) : List Full := [kn0 d r, kn1 d' r']
theorem kn_right (d r d' r' : Value) : rightC (cvs (kn d r d' r')) = true := by rw [right_eq]; rfl
theorem kn_a (d r d' r' : Value) : LegalIs (kn d r d' r') [0, 1] 0 0 := by
  refine .inr ⟨kn_right .., .inr ⟨of_decide_eq_true rfl, .inr ⟨of_decide_eq_true rfl, .inr ⟨of_decide_eq_true rfl, .inr ⟨of_decide_eq_true rfl, rfl, rfl⟩⟩⟩⟩⟩
theorem kn_b (d r d' r' : Value) : LegalIs (kn d r d' r') [1, 0] 0 51 := by
  refine .inr ⟨kn_right .., .inr ⟨of_decide_eq_true rfl, .inr ⟨of_decide_eq_true rfl, .inl ⟨0, by decide, rfl, fun j hj => by omega, rfl, rfl⟩⟩⟩⟩
theorem kn_c (d r d' r' : Value) : LegalIs (kn d r d' r') [0] 1 3 := by
  refine .inr ⟨kn_right .., .inr ⟨of_decide_eq_true rfl, .inl ⟨of_decide_eq_false rfl, rfl, rfl⟩⟩⟩
theorem block_below {w W : World} {b : Nat} {o : Obj} (h : w.heap[b]? = some o) (hb : Below w.heap.size w W) : W.heap[b]? = some o := (hb.block b (Array.getElem?_eq_some_iff.1 h).1).trans h
theorem block_alloc {w : World} {b : Nat} {o : Obj} (h : w.heap[b]? = some o) (p : Obj) : (w.alloc p).heap[b]? = some o := block_below h ((Below.refl _ _).alloc (Nat.le_refl _) _)
theorem sees_block {W : World} {b : Nat} {cs : Array Value} {t : TypeId} (h : W.heap[b]? = some (.cells cs t (0, 0))) : Sees W (some ⟨b, 0, none⟩) cs.toList := fun j v hj => ⟨⟨b, 0, none⟩, rfl, by
  rw [add_base, cell_of_row W b j _ _ _ h]
  simpa using hj⟩
/-- The two calls lie in memory. -/
theorem kn_fulls {W : World} {b0 b1 b2 b3 : Nat} (h0 : W.heap[b0]? = some (.cells #[.int .u8 7] 5 (0, 0))) (h1 : W.heap[b1]? = some (.cells #[.int .u8 7] 5 (0, 0)))
    (h2 : W.heap[b2]? = some (.cells #[.slice (some ⟨b1, 0, none⟩) 1 1] 30 (0, 0)))
    (h3 : W.heap[b3]? = some (.cells ((kn0 (.slice (some ⟨b0, 0, none⟩) 1 1) (.slice none 0 0)).1.cells ++ (kn1 (.slice none 0 0) (.slice (some ⟨b2, 0, none⟩) 1 1)).1.cells) 62 (0, 0))) :
    FullsOf b3 (some ⟨b3, 0, none⟩) (kn (.slice (some ⟨b0, 0, none⟩) 1 1) (.slice none 0 0) (.slice none 0 0) (.slice (some ⟨b2, 0, none⟩) 1 1)) 2 W := by
  refine ⟨⟨rfl, fun _ => rfl, ?_, ?_⟩, ?_⟩
  · intro k c hc j v hj
    rw [cell_of_row W b3 _ _ _ _ h3]
    have hj12 : j < 12 := by
      have := (List.getElem?_eq_some_iff.1 hj).1
      simpa [CV.cells] using this
    match k, hc with
    | 0, hc =>
      cases hc
      rw [Array.getElem?_append_left (by simpa [CV.cells, kn0] using hj12)]
      simpa using hj
    | 1, hc =>
      cases hc
      rw [Array.getElem?_append_right (by simp [CV.cells, kn0])]
      simpa [kn0, CV.cells] using hj
  · intro c hc
    rcases List.mem_cons.1 hc with rfl | hc
    · exact ⟨rfl, rfl⟩
    · obtain rfl := List.mem_singleton.1 hc
      exact ⟨rfl, rfl⟩
  · intro x hx
    rcases List.mem_cons.1 hx with rfl | hx
    · exact ⟨some ⟨b0, 0, none⟩, 1, none, 0, 0, fun _ => True, rfl, rfl, Nat.le_refl _, sees_block h0, [], rfl, Sees.nil _ _, fun _ h => by (cases h), Recs.nil⟩
    · obtain rfl := List.mem_singleton.1 hx
      refine ⟨none, 0, some ⟨b2, 0, none⟩, 1, 1, fun _ => True, rfl, rfl, Nat.le_refl _, Sees.nil _ _, [.slice (some ⟨b1, 0, none⟩) 1 1], rfl, sees_block h2, fun _ _ => trivial, ?_⟩
      refine Recs.snoc (xs := []) (cells := []) Recs.nil rfl ⟨some ⟨b1, 0, none⟩, 1, rfl, ⟨rfl, .inr ⟨b1, 1, _, rfl, Nat.zero_le _, h1, Nat.le_refl _, by decide, rfl, rfl⟩⟩, fun _ _ => trivial⟩
theorem kn_data {d r d' r' : Value} : ∀ x ∈ kn d r d' r', x.2.1.length ≤ 140737488355328 := by
  intro x hx
  rcases List.mem_cons.1 hx with rfl | hx
  · show [(7 : UInt8)].length ≤ _
    decide
  · obtain rfl := List.mem_singleton.1 hx
    exact Nat.zero_le _
theorem ord_see (w : World) (ds : List Int) : Sees (w.alloc (.cells (ds.map i64v).toArray 3)) (some ⟨w.heap.size, 0, none⟩) (ds.map i64v) := by
  have := sees_new w (ds.map i64v).toArray 3
  simpa using this
set_option maxHeartbeats 4000000 in
theorem knows_any (w : World) : Calls Try.prog 10 #[] w (RetBo true w) := by
  obtain ⟨b, hb⟩ : ∃ b, w.heap.size = b := ⟨_, rfl⟩
  obtain ⟨c1, hc1⟩ : ∃ c, (kn0 (.slice (some ⟨b, 0, none⟩) 1 1) (.slice none 0 0)).1.cells ++ (kn1 (.slice none 0 0) (.slice (some ⟨b + 1 + 1, 0, none⟩) 1 1)).1.cells = c := ⟨_, rfl⟩
  obtain ⟨W, hW⟩ : ∃ W, (((w.alloc (.cells #[.int .u8 7] 5)).alloc (.cells #[.int .u8 7] 5)).alloc (.cells #[.slice (some ⟨b + 1, 0, none⟩) 1 1] 30)).alloc (.cells c1 62) = W := ⟨_, rfl⟩
  have hbW : Below w.heap.size w W := by
    rw [← hW]
    exact ((((Below.refl w.heap.size w).alloc (Nat.le_refl _) _).alloc (by simp) _).alloc (by simp; omega) _).alloc (by simp; omega) _
  have hsz : W.heap.size = b + 4 := by rw [← hW, ← hb]; simp
  have hf : FullsOf (b + 1 + 1 + 1) (some ⟨b + 1 + 1 + 1, 0, none⟩) (kn (.slice (some ⟨b, 0, none⟩) 1 1) (.slice none 0 0) (.slice none 0 0) (.slice (some ⟨b + 1 + 1, 0, none⟩) 1 1)) 2 W := by
    refine kn_fulls (b1 := b + 1) ?_ ?_ ?_ ?_
    · rw [← hW, ← hb]
      exact block_alloc (block_alloc (block_alloc (heap_alloc_new _ _) _) _) _
    · rw [← hW, ← hb]
      have := block_alloc (block_alloc (heap_alloc_new (w.alloc (.cells #[.int .u8 7] 5)) (.cells #[.int .u8 7] 5)) (.cells #[.slice (some ⟨w.heap.size + 1, 0, none⟩) 1 1] 30)) (.cells c1 62)
      simpa using this
    · rw [← hW, ← hb]
      have := block_alloc (heap_alloc_new ((w.alloc (.cells #[.int .u8 7] 5)).alloc (.cells #[.int .u8 7] 5)) (.cells #[.slice (some ⟨w.heap.size + 1, 0, none⟩) 1 1] 30)) (.cells c1 62)
      simpa using this
    · rw [hc1, ← hW, ← hb]
      have := heap_alloc_new (((w.alloc (.cells #[.int .u8 7] 5)).alloc (.cells #[.int .u8 7] 5)).alloc (.cells #[.slice (some ⟨w.heap.size + 1, 0, none⟩) 1 1] 30)) (.cells c1 62)
      simpa using this
  have HF := Lib.hid hf
  have HB := Lib.hid hbW
  have HS := Lib.hid hsz
  unfold CV.cells kn0 kn1 at hc1
  simp only [List.append_toArray, List.cons_append, List.nil_append] at hc1
  subst hc1
  have HW := Lib.hid hW
  clear hf hbW hsz hW
  have L1 := Lib.hid fun (W' : World) (hb' : Below W.heap.size W W') => legal_any (cp := 2) (m := 2) (oc := 2) (os := [0, 1]) (W'.alloc (.cells #[.int .i64 0, .int .i64 1] 3)) ((HF.out.below hb').below ((Below.refl _ _).alloc (Nat.le_refl _) _)) (by have := HS.out; have := hb'.size; simp; omega) (by decide) (ord_see W' [0, 1]) rfl (by decide) kn_data
  have L2 := Lib.hid fun (W' : World) (hb' : Below W.heap.size W W') => legal_any (cp := 2) (m := 2) (oc := 2) (os := [1, 0]) (W'.alloc (.cells #[.int .i64 1, .int .i64 0] 3)) ((HF.out.below hb').below ((Below.refl _ _).alloc (Nat.le_refl _) _)) (by have := HS.out; have := hb'.size; simp; omega) (by decide) (ord_see W' [1, 0]) rfl (by decide) kn_data
  have L3 := Lib.hid fun (W' : World) (hb' : Below W.heap.size W W') => legal_any (cp := 2) (m := 1) (oc := 1) (os := [0]) (W'.alloc (.cells #[.int .i64 0] 3)) ((HF.out.below hb').below ((Below.refl _ _).alloc (Nat.le_refl _) _)) (by have := HS.out; have := hb'.size; simp; omega) (by decide) (ord_see W' [0]) rfl (by decide) kn_data
  have R4 := Lib.hid fun (W' : World) (hb' : Below W.heap.size W W') => right_any (cp := 2) W' (HF.out.below hb').1 (by decide) (by have := HS.out; have := hb'.size; omega)
  go_enter Try.func10, Try.ntmps10
  go_upto_region 2 with fail
  try rw [hb]
  rw [HW.out]
  clear hb
  go_wp2_with (first
    | (go_at_call 23; refine (num_any _ _).mono ?_; rintro e w8 ⟨rfl, rfl⟩)
    | (have hx := b3; go_at_call 28; refine (R4.out _ b3).mono ?_; rintro e w8 ⟨rfl, hb8⟩; rw [kn_right] at *; have B4 := Lib.hid (below_step b3 b3.size hb8))
    | (have hx := b2; go_at_call 21; refine (L3.out _ b2).mono ?_; rintro e w5 ⟨a3, e3, rfl, hl3, hb3⟩; obtain ⟨rfl, rfl⟩ := hl3.one (kn_c _ _ _ _); have b3 := below_step b2 b2.size (below_step ((Below.refl _ _).alloc (Nat.le_refl _) _) (by simp) hb3))
    | (have hx := b1; go_at_call 21; refine (L2.out _ b1).mono ?_; rintro e w4 ⟨a2, e2, rfl, hl2, hb2⟩; obtain ⟨rfl, rfl⟩ := hl2.one (kn_b _ _ _ _); have b2 := below_step b1 b1.size (below_step ((Below.refl _ _).alloc (Nat.le_refl _) _) (by simp) hb2))
    | (go_at_call 21; refine (L1.out _ (Below.refl _ _)).mono ?_; rintro e w3 ⟨a1, e1, rfl, hl1, hb1⟩; obtain ⟨rfl, rfl⟩ := hl1.one (kn_a _ _ _ _); have b1 := below_step ((Below.refl _ _).alloc (Nat.le_refl _) _) (by simp) hb1)
    | fail)
  go_ret
  exact ⟨rfl, below_step HB.out HB.out.size B4.out⟩
end Go.Proofs.Ytbnbeailbhnbdaa
