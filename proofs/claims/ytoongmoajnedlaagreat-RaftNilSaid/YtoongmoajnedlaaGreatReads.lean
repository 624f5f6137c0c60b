/-
  Package reads: a book that was made.
-/
import Derived.Test.YtoongmoajnedlaaGreatProg
import Derived.Test.YtoongmoajnedlaaGreatLib
import Derived.Test.YtoongmoajnedlaaGreatRet
import Derived.Test.YtoongmoajnedlaaGreatOut
import Derived.Test.YtoongmoajnedlaaGreatEnt1
set_option linter.unusedVariables false
set_option linter.unusedSimpArgs false
namespace Go.Proofs.YtoongmoajnedlaaGreat
open Go.RowKit

/-- Rounds, the first k of them -1. -/
def rndV (k : Nat) : List Value := (List.replicate k (-1 : Int) ++ List.replicate (16 - k) 0).map fun i => Value.int .i64 i
theorem rndV_length {k : Nat} (h : k ≤ 16) : (rndV k).length = 16 := by simp [rndV]; omega
theorem rndV_set {k : Nat} (h : k < 16) : (rndV k).set k (.int .i64 (-1)) = rndV (k + 1) := by
  have key : ∀ k, k < 16 → (List.replicate k (-1 : Int) ++ List.replicate (16 - k) 0).set k (-1) = (List.replicate (k + 1) (-1 : Int) ++ List.replicate (16 - (k + 1)) 0) := by decide
  unfold rndV
  rw [← List.map_set, key k h]
theorem rndV_get {k j : Nat} (h : j < 16) (hk : k ≤ 16) : ∃ v, (rndV k)[j]? = some v := ⟨_, List.getElem?_eq_getElem (by rw [rndV_length hk]; exact h)⟩
def RndAt (W : World) (g k : Nat) : Prop := W.heap[g]? = some (.cells (rndV k).toArray 194 (0, 0))
section
variable {W W' : World} {g k : Nat}
theorem RndAt.cell (h : RndAt W g k) {j : Nat} {v : Value} (hj : (rndV k)[j]? = some v) : W.cell? ⟨g, j, none⟩ = some v := by
  rw [cell_of_row _ _ j _ _ _ h]
  simpa using hj
theorem RndAt.frozen (h : RndAt W g k) (j : Nat) : W.frozen? ⟨g, j, none⟩ = false := by unfold RndAt at h; simp [World.frozen?, h]
theorem RndAt.set (h : RndAt W g k) (hk : k < 16) : RndAt (W.setCell ⟨g, k, none⟩ (.int .i64 (-1))) g (k + 1) := by
  unfold RndAt at *
  rw [← rndV_set hk]
  simp [World.setCell, Array.getElem?_modify, h]
theorem RndAt.there (h : RndAt W g k) (hk : k ≤ 16) : W.there g 0 16 := fun j hj => by
  obtain ⟨v, hv⟩ := rndV_get (k := k) hj hk
  exact ⟨by rw [Nat.zero_add, h.cell hv]; rfl, by rw [Nat.zero_add]; exact h.frozen j⟩
theorem rndV_ones (k : Nat) : ((rndV k).toArray).all (·.oneCell') = true := by
  refine Array.all_eq_true_iff_forall_mem.2 (fun v hv => ?_)
  have h9 : v ∈ rndV k := by simpa using hv
  unfold rndV at h9
  obtain ⟨i, _, rfl⟩ := List.mem_map.1 h9
  rfl
end
theorem rnd_info : (Tryz.prog.info? 194).map (·.size) = some 16 := by kernel_rfl
/-- All cells of a block are stored anew. -/
theorem cells_all {W : World} {g : Nat} {ty : TypeId} {cs : Array Value} {vs : List Value} (h : W.heap[g]? = some (.cells cs ty (0, 0))) (hl : vs.length = cs.size) : (W.setCells g 0 vs).heap[g]? = some (.cells vs.toArray ty (0, 0)) := by
  have key : ∀ (vs : List Value) (o : Nat) (W : World) (cs : Array Value), W.heap[g]? = some (.cells cs ty (0, 0)) → ∃ cs' : Array Value, (W.setCells g o vs).heap[g]? = some (.cells cs' ty (0, 0)) ∧ cs'.size = cs.size := by
    intro vs
    induction vs with
    | nil => exact fun o W cs h => ⟨cs, h, rfl⟩
    | cons v r ih =>
      intro o W cs h
      have h1 : (W.setCell ⟨g, o, none⟩ v).heap[g]? = some (.cells (cs.setIfInBounds o v) ty (0, 0)) := by simp [World.setCell, Array.getElem?_modify, h]
      obtain ⟨cs', h2, h3⟩ := ih (o + 1) _ _ h1
      exact ⟨cs', h2, by rw [h3]; simp⟩
  obtain ⟨cs', h2, h3⟩ := key vs 0 W _ h
  rw [h2]
  have hs := World.rangeAt_setCells_same W g 0 vs (there_of_block h _ hl)
  congr 2
  apply Array.ext
  · rw [h3]; simp [hl]
  · intro i h4 h5
    have h6 : i < vs.length := by simpa using h5
    have h7 := hs i _ (List.getElem?_eq_getElem h6)
    rw [Nat.zero_add, cell_of_row _ _ i _ _ _ h2] at h7
    rw [Array.getElem?_eq_getElem h4] at h7
    simpa using h7
def RetRnd (w : World) (e : Ending) (w' : World) : Prop := e = .returned (.agg (rndV 16).toArray) ∧ Below w.heap.size w w'
set_option maxRecDepth 16384 in
set_option maxHeartbeats 4000000 in
theorem norounds_any (w : World) : Calls Tryz.prog 152 #[] w (RetRnd w) := by
  obtain ⟨W, hW⟩ : ∃ W, (w.alloc (.cells (rndV 0).toArray 194)).alloc (.cells (rndV 0).toArray 194) = W := ⟨_, rfl⟩
  have hb : Below w.heap.size w W := by rw [← hW]; exact ((Below.refl _ _).alloc (Nat.le_refl _) _).alloc (by simp) _
  have h1 : RndAt W (w.heap.size + 1) 0 := by
    rw [← hW]
    have := heap_alloc_new (w.alloc (.cells (rndV 0).toArray 194)) (.cells (rndV 0).toArray 194)
    rw [World.size_alloc] at this
    exact this
  have h0 : RndAt W w.heap.size 0 := by
    rw [← hW]
    exact (Below.heap_alloc _ _ _ (by simp)).trans (heap_alloc_new w _)
  obtain ⟨gb, hgb⟩ : ∃ gb, w.heap.size = gb := ⟨_, rfl⟩
  rw [hgb] at h0 h1
  have HB := Lib.hid hb
  have HW := Lib.hid hW
  have HGB := Lib.hid hgb
  have HST : Hid (∃ k : Nat, Value.int .i64 0 = .int .i64 (k : Int) ∧ k ≤ 16 ∧ RndAt W (gb + 1) k ∧ RndAt W gb 0 ∧ Below gb w W) := Lib.hid ⟨0, rfl, by omega, h1, h0, by rw [← hgb]; exact hb⟩
  clear hb hW hgb h0 h1
  go_enter Tryz.func152, Tryz.ntmps152
  go_upto_region 2 with fail
  have hw2 := HW.out
  unfold rndV at hw2
  simp only [List.replicate, List.nil_append, List.map_cons, List.map_nil, Nat.sub_zero] at hw2
  rw [hw2]
  try rw [HGB.out]
  clear hw2
  go_wp2_with fail
  go_loopw [3] (fun s3 wr => ∃ k : Nat, s3 = .int .i64 (k : Int) ∧ k ≤ 16 ∧ RndAt wr (gb + 1) k ∧ RndAt wr gb 0 ∧ Below gb w wr) (fun s3 _ => 16 - (intOf s3).toNat)
  case atStart => exact HST.out
  case round =>
    obtain ⟨k, rfl, hk, hr, hr0, hbr⟩ := hrel
    have HR := Lib.hid hr
    have HR0 := Lib.hid hr0
    have HBR := Lib.hid hbr
    clear HST hr hr0 hbr
    by_cases hlt : k < 16
    · have hki : (k : Int) < 16 := by omega
      obtain ⟨u, hu⟩ := rndV_get (k := k) hlt hk
      have cu := HR.out.cell hu
      have fu := HR.out.frozen k
      clear hu
      go_wp2_with fail
      go_roundw
      case rel => exact ⟨k + 1, by go_num, hlt, HR.out.set hlt, (Below.heap_setCell _ _ _ _ (by show gb ≠ gb + 1; omega)).trans HR0.out, HBR.out.setCell (p := ⟨gb + 1, k, none⟩) (by show gb ≤ gb + 1; omega) _⟩
      case measure => simp [intOf] <;> omega
    · obtain rfl : k = 16 := by omega
      have hki : ¬ ((16 : Nat) : Int) < 16 := by omega
      have hl16 : (rndV 16).length = 16 := rndV_length (Nat.le_refl _)
      go_upto_region 7 with fail
      go_wp2_with (first
        | (refine wpList_load_far rfl 194 _ rfl ⟨gb + 1, 0, none⟩ rfl (rndV 16) _ (fun j v hj => by rw [add_raw, Nat.zero_add]; exact HR.out.cell hj) Tryz.underlying194 rfl (by rw [hl16]; exact rnd_info) ?_)
        | (refine wpList_store_mid rfl 194 _ _ rfl gb 0 (rndV 16).toArray rfl rfl (by rw [List.size_toArray, hl16]; exact HR0.out.there (Nat.zero_le _)) (by rw [List.size_toArray, hl16]; exact rnd_info) (rndV_ones 16) ?_)
        | fail)
      have hrow := cells_all (vs := rndV 16) HR0.out (by rw [hl16, List.size_toArray, rndV_length (Nat.zero_le _)])
      refine bodyPost_ret (v := .agg (rndV 16).toArray) (results_cell_row rfl _ _ _ _ _ _ _ rfl hrow Tryz.underlying194 rfl (by rw [List.size_toArray, hl16]; exact rnd_info)) rfl ?_
      exact ⟨rfl, by rw [HGB.out]; exact below_cells (Nat.le_refl _) _ _ _ HBR.out⟩
/-- A book that was made, in block g. -/
def BookAt (W : World) (g : Nat) (me : Int) (l : Value) (hs : List Value) : Prop := W.heap[g]? = some (.cells (#[.int .i64 me, .bool true, l] ++ hs.toArray) 196 (0, 0))
def RetBook (me : Int) (w : World) (e : Ending) (w' : World) : Prop := ∃ g, e = .returned (.tuple #[.pointer (some ⟨g, 0, none⟩), .int .i64 0]) ∧ w.heap.size ≤ g ∧ BookAt w' g me (.slice none 0 0) (rndV 16) ∧ Below w.heap.size w w'
set_option maxRecDepth 16384 in
set_option maxHeartbeats 4000000 in
theorem bnew_any (me : Int) (w : World) (h1 : 0 ≤ me) (h2 : me < 16) : Calls Tryz.prog 88 #[.int .i64 me] w (RetBook me w) := by
  have g1 : ¬ me < 0 := by omega
  have g2 : ¬ (16 : Int) ≤ me := by omega
  have HN := Lib.hid (norounds_any w)
  unfold RetRnd at HN
  have hl : (rndV 16).toArray = #[.int .i64 (-1), .int .i64 (-1), .int .i64 (-1), .int .i64 (-1), .int .i64 (-1), .int .i64 (-1), .int .i64 (-1), .int .i64 (-1), .int .i64 (-1), .int .i64 (-1), .int .i64 (-1), .int .i64 (-1), .int .i64 (-1), .int .i64 (-1), .int .i64 (-1), .int .i64 (-1)] := by
    unfold rndV
    rfl
  rw [hl] at HN
  go_enter Tryz.func88, Tryz.ntmps88
  go_wp2_with (first
    | (go_at_call 152; refine HN.out.mono ?_; rintro e w2 ⟨rfl, hb2⟩; have HB2 := Lib.hid hb2; clear hb2)
    | fail)
  go_ret2
  refine ⟨w2.heap.size, rfl, HB2.out.size, ?_, HB2.out.alloc HB2.out.size _⟩
  unfold BookAt
  rw [hl]
  exact heap_alloc_new w2 _
theorem bnew_bad (me : Int) (w : World) (h1 : me < 0 ∨ 16 ≤ me) : Calls Tryz.prog 88 #[.int .i64 me] w fun e w' => e = .returned (.tuple #[.pointer none, .int .i64 1]) ∧ Below w.heap.size w w' := by
  by_cases g1 : me < 0
  · go_enter Tryz.func88, Tryz.ntmps88
    go_wp2_with fail
    go_ret2
    exact ⟨rfl, Below.refl _ _⟩
  · have g2 : (16 : Int) ≤ me := by omega
    clear h1
    go_enter Tryz.func88, Tryz.ntmps88
    go_wp2_with fail
    go_ret2
    exact ⟨rfl, Below.refl _ _⟩
end Go.Proofs.YtoongmoajnedlaaGreat
