/-
  ProgressSends: the walk.
-/
import Derived.Test.YtlcnpfiiijehmaaBatch
import Derived.Test.YtlcnpfiiijehmaaESame
import Derived.Test.YtlcnpfiiijehmaaKnow13
set_option linter.unusedVariables false
set_option linter.unusedSimpArgs false
namespace Go.Proofs.Ytlcnpfiiijehmaa
open Go.RowKit

def RSendAt (W : World) (g : Nat) (b : Bool) (p t : Int) (d : Value) : Prop := W.heap[g]? = some (.cells #[.bool b, .int .i64 p, .int .i64 t, d] 47 (0, 0))
theorem RSendAt.cells {W : World} {g : Nat} {b : Bool} {p t : Int} {d : Value} (h : RSendAt W g b p t d) : W.cell? ⟨g, 0, none⟩ = some (.bool b) ∧ W.cell? ⟨g, 1, none⟩ = some (.int .i64 p) ∧ W.cell? ⟨g, 2, none⟩ = some (.int .i64 t) ∧ W.cell? ⟨g, 3, none⟩ = some d :=
  ⟨by rw [cell_of_row _ _ 0 _ _ _ h]; rfl, by rw [cell_of_row _ _ 1 _ _ _ h]; rfl, by rw [cell_of_row _ _ 2 _ _ _ h]; rfl, by rw [cell_of_row _ _ 3 _ _ _ h]; rfl⟩
theorem cells_keep {W W' : World} {g : Nat} {cs : Array Value} {ty : TypeId} (h : W.heap[g]? = some (.cells cs ty (0, 0))) (hb : Below W.heap.size W W') : W'.heap[g]? = some (.cells cs ty (0, 0)) := (hb.block g (Array.getElem?_eq_some_iff.1 h).1).trans h
set_option maxRecDepth 16384 in
set_option maxHeartbeats 8000000 in
theorem sends_any (v : Vw) (next : Int) (A : Option Addr) (n c : Nat) (w : World) (hx : IntOk next) (hn : v.l.length = n) (hn2 : n * 48 ≤ 140737488351232) (h : SeenE w A v.l) (hs : SmallE v.l) :
    Calls Try.prog 6 #[v.val (.slice A n c), .int .i64 next] w (RetBool w true) := by
  obtain ⟨W, hW⟩ : ∃ W, w.alloc (.cells #[.int .i64 v.base, .int .i64 v.term, .slice A n c] 24) = W := ⟨_, rfl⟩
  have hb : Below w.heap.size w W := by rw [← hW]; exact (Below.refl _ _).alloc (Nat.le_refl _) _
  have hrow : W.heap[w.heap.size]? = some (.cells #[.int .i64 v.base, .int .i64 v.term, .slice A n c] 24 (0, 0)) := by rw [← hW]; exact heap_alloc_new w _
  have HW := Lib.hid hW
  have HB := Lib.hid hb
  obtain ⟨gb, hgb⟩ : ∃ gb, w.heap.size = gb := ⟨_, rfl⟩
  rw [hgb] at hrow
  have HGB := Lib.hid hgb
  have HN := Lib.hid hn
  have HVW := Lib.hid (view_any v A n c W hn hn2 (h.below hb) hs)
  have HBA := Lib.hid (fun W' (A' : Option Addr) (c' : Nat) (hse : SeenE W' A' v.l) => batch_any v next A' n c' W' hx hn hn2 hse hs)
  have HRB := Lib.hid (fun W' (hb' : Below w.heap.size w W') => rbatch_any v next A n c W' hx hn hn2 (h.below hb') hs)
  have HSAME := Lib.hid (fun W' (A' : Option Addr) (c' : Nat) (hse : SeenE W' A' v.l) (hb' : Below w.heap.size w W') => same12_any v A' A n c' c W' hn (by omega) hse (h.below hb'))
  have HLN : Hid ((batchV v next).2.2.2.length ≤ 8) := Lib.hid (by
    unfold batchV
    split
    · exact Nat.zero_le _
    · split
      · exact Nat.zero_le _
      · unfold fromL
        split
        · exact List.length_take_le _ _
        · exact Nat.zero_le _)
  have HR0 := Lib.hid hrow
  have q0 := cell_of_row W gb 0 _ _ _ hrow
  have q1 := cell_of_row W gb 1 _ _ _ hrow
  have q2 := cell_of_row W gb 2 _ _ _ hrow
  simp at q0 q1 q2
  obtain ⟨sb, hsb⟩ : ∃ x, (batchV v next).1 = x := ⟨_, rfl⟩
  obtain ⟨sp, hsp⟩ : ∃ x, (batchV v next).2.1 = x := ⟨_, rfl⟩
  obtain ⟨st, hst⟩ : ∃ x, (batchV v next).2.2.1 = x := ⟨_, rfl⟩
  obtain ⟨es, hes⟩ : ∃ x, (batchV v next).2.2.2 = x := ⟨_, rfl⟩
  rw [hes] at HLN
  unfold RetBatch at HBA
  unfold RetSend at HRB
  rw [hsb, hsp, hst, hes] at HBA HRB
  unfold Vw.val at HVW HBA HRB HSAME ⊢
  clear hW hb h hn hs hgb hrow hsb hsp hst hes hx
  go_enter Try.func6, Try.ntmps6
  go_upto_region 1 with fail
  rw [HW.out]
  try rw [HGB.out]
  go_upto_region 2 with (first
    | (go_at_call 8; refine HVW.out.mono ?_; rintro e w2 ⟨A2, n2, c2, rfl, hn2', ho2, hb2⟩; have hnn := hn2'.trans HN.out; clear hn2'; obtain rfl := hnn; unfold Vw.val; have HB2 := Lib.hid hb2; have HS2 := Lib.hid ho2.see.1; clear ho2 hb2)
    | fail)
  obtain ⟨w5, hw5⟩ : ∃ w5, w2.alloc (.cells #[.int .i64 v.base, .int .i64 v.term, .slice A2 n2 c2] 26) = w5 := ⟨_, rfl⟩
  have hb5 : Below w2.heap.size w2 w5 := by rw [← hw5]; exact (Below.refl _ _).alloc (Nat.le_refl _) _
  have hrow5 : w5.heap[w2.heap.size]? = some (.cells #[.int .i64 v.base, .int .i64 v.term, .slice A2 n2 c2] 26 (0, 0)) := by rw [← hw5]; exact heap_alloc_new _ _
  rw [hw5]
  obtain ⟨gx, hgx⟩ : ∃ gx, w2.heap.size = gx := ⟨_, rfl⟩
  rw [hgx] at hrow5
  try rw [hgx]
  have HBF := Lib.hid (below_step HB.out HB.out.size (below_step HB2.out HB2.out.size hb5))
  have HSE := Lib.hid (HS2.out.below hb5)
  have HR5 := Lib.hid hrow5
  have HR05 := Lib.hid (cells_keep HR0.out (below_step HB2.out HB2.out.size hb5))
  have p0 := cell_of_row w5 gx 0 _ _ _ hrow5
  have p1 := cell_of_row w5 gx 1 _ _ _ hrow5
  have p2 := cell_of_row w5 gx 2 _ _ _ hrow5
  simp at p0 p1 p2
  clear hw5 hb5 hrow5 hgx q0 q1 q2
  go_upto_region 3 with (first
    | (go_at_call 17; refine (HBA.out w5 A2 c2 HSE.out).mono ?_; rintro e w6 ⟨A6, n6, c6, rfl, ho6, hb6⟩; have HB6 := Lib.hid hb6; have HS6 := Lib.hid ho6.see; clear ho6 hb6)
    | fail)
  obtain ⟨w7, hw7⟩ : ∃ w7, w6.alloc (.cells #[.bool sb, .int .i64 sp, .int .i64 st, .slice A6 n6 c6] 45) = w7 := ⟨_, rfl⟩
  have hb7 : Below w6.heap.size w6 w7 := by rw [← hw7]; exact (Below.refl _ _).alloc (Nat.le_refl _) _
  have hrow7 : SendAt w7 w6.heap.size sb sp st (.slice A6 n6 c6) := by rw [← hw7]; exact heap_alloc_new _ _
  rw [hw7]
  obtain ⟨gy, hgy⟩ : ∃ gy, w6.heap.size = gy := ⟨_, rfl⟩
  rw [hgy] at hrow7
  try rw [hgy]
  have hb57 := below_step HB6.out HB6.out.size hb7
  have HB7 := Lib.hid (below_step HBF.out HBF.out.size hb57)
  have HS7 := Lib.hid (HS6.out.1.below hb7)
  have HSV := Lib.hid (HSE.out.below hb57)
  have HR7 := Lib.hid hrow7
  have hr0 := cells_keep HR05.out hb57
  have HR07 := Lib.hid hr0
  have HR57 := Lib.hid (cells_keep HR5.out hb57)
  have q0 := cell_of_row w7 gb 0 _ _ _ hr0
  have q1 := cell_of_row w7 gb 1 _ _ _ hr0
  have q2 := cell_of_row w7 gb 2 _ _ _ hr0
  simp at q0 q1 q2
  clear hw7 hb7 hrow7 hgy hb57 hr0 p0 p1 p2
  go_upto_region 4 with (first
    | (go_at_call 18; refine (HRB.out w7 HB7.out).mono ?_; rintro e w8 ⟨A8, n8, c8, rfl, hn8, hc8, hs8, hb8⟩; have HB8 := Lib.hid hb8; have HS8 := Lib.hid hs8; have HN8 := Lib.hid hn8; clear hn8 hc8 hs8 hb8)
    | fail)
  obtain ⟨w9, hw9⟩ : ∃ w9, w8.alloc (.cells #[.bool sb, .int .i64 sp, .int .i64 st, .slice A8 n8 c8] 47) = w9 := ⟨_, rfl⟩
  have hb9 : Below w8.heap.size w8 w9 := by rw [← hw9]; exact (Below.refl _ _).alloc (Nat.le_refl _) _
  have hrow9 : RSendAt w9 w8.heap.size sb sp st (.slice A8 n8 c8) := by rw [← hw9]; exact heap_alloc_new _ _
  rw [hw9]
  obtain ⟨gz, hgz⟩ : ∃ gz, w8.heap.size = gz := ⟨_, rfl⟩
  rw [hgz] at hrow9
  try rw [hgz]
  have hb79 := below_step HB8.out HB8.out.size hb9
  have HB9 := Lib.hid (below_step HB7.out HB7.out.size hb79)
  have HS79 := Lib.hid (HS7.out.below hb79)
  have HSV9 := Lib.hid (HSV.out.below hb79)
  have HS9 := Lib.hid (HS8.out.below hb9)
  have hr0 := cells_keep HR07.out hb79
  have hr5 := cells_keep HR57.out hb79
  have hr7 := HR7.out.below hb79 (Array.getElem?_eq_some_iff.1 HR7.out).1
  have HRX0 := Lib.hid hr0
  have HRX5 := Lib.hid hr5
  obtain ⟨s0, s1, s2, s3⟩ := hr7.cells
  obtain ⟨r0, r1, r2, r3⟩ := hrow9.cells
  have hnn : n6 = n8 := HS6.out.2.1.symm.trans HN8.out
  subst hnn
  clear hw9 hb9 hrow9 hgz hb79 hr0 hr5 hr7 q0 q1 q2
  go_wp2_with (first
    | (go_at_call 19; refine (entries_same_any A6 A8 es n6 c6 c8 w9 HN8.out (by have := HLN.out; have := HN8.out; omega) HS79.out HS9.out).mono ?_; rintro e wa ⟨rfl, hba⟩; have HBA' := Lib.hid hba; have hr0 := cells_keep HRX0.out hba; have hr5 := cells_keep HRX5.out hba; have q0 := cell_of_row wa gb 0 _ _ _ hr0; have q1 := cell_of_row wa gb 1 _ _ _ hr0; have q2 := cell_of_row wa gb 2 _ _ _ hr0; have p0 := cell_of_row wa gx 0 _ _ _ hr5; have p1 := cell_of_row wa gx 1 _ _ _ hr5; have p2 := cell_of_row wa gx 2 _ _ _ hr5; simp at q0 q1 q2 p0 p1 p2; clear hba hr0 hr5)
    | (go_at_call 11; refine (HSAME.out wa A2 c2 (HSV9.out.below HBA'.out) (below_step HB9.out HB9.out.size HBA'.out)).mono ?_; rintro e wb ⟨rfl, hbb⟩; have HBB := Lib.hid (below_step HBA'.out HBA'.out.size hbb); clear hbb)
    | (go_at_call 12; refine (knows_any wb).mono ?_; rintro e wc ⟨rfl, hbc⟩; have HBC := Lib.hid (below_step HBB.out HBB.out.size hbc); clear hbc)
    | fail)
  go_ret
  exact ⟨rfl, below_step HB9.out HB9.out.size HBC.out⟩
end Go.Proofs.Ytlcnpfiiijehmaa
