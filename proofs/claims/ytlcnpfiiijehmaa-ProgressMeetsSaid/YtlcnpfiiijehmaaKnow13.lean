/-
  Layer 13: one entry; what must come (knows).
-/
import Derived.Test.YtlcnpfiiijehmaaEOwn2
import Derived.Test.YtlcnpfiiijehmaaCommit
set_option linter.unusedVariables false
set_option linter.unusedSimpArgs false
namespace Go.Proofs.Ytlcnpfiiijehmaa
open Go.RowKit

def entC (t i : Nat) : Ent := ⟨(t : Int), (i : Int), 2, [UInt8.ofNat t]⟩
set_option maxHeartbeats 1000000 in
theorem entry_any (t i : Nat) (w : World) (ht : t < 9223372036854775808) : Calls Try.prog 31 #[.int .i64 (t : Int), .int .i64 (i : Int)] w (RetEnt (entC t i) w) := by
  unfold RetEnt entC Ent.val
  dsimp only
  have HV := Lib.hid (u8s_ofNat t)
  go_enter Try.func31, Try.ntmps31
  go_wp2_with fail
  have hrow : ((w.alloc (.cells #[.int .i64 (t : Int), .int .i64 (i : Int), .int .i64 2, .slice (some ⟨w.heap.size + 1, 0, none⟩) 1 1] 54)).alloc (.cells #[.int .u8 ((t : Int) % 256)] 5)).heap[w.heap.size]? = some (.cells #[.int .i64 (t : Int), .int .i64 (i : Int), .int .i64 2, .slice (some ⟨w.heap.size + 1, 0, none⟩) 1 1] 54 (0, 0)) :=
    (Below.heap_alloc _ _ _ (by simp)).trans (heap_alloc_new w _)
  refine bodyPost_ret (v := .agg #[.int .i64 (t : Int), .int .i64 (i : Int), .int .i64 2, .slice (some ⟨w.heap.size + 1, 0, none⟩) 1 1]) (results_cell_row rfl _ _ _ _ _ _ _ rfl hrow Try.underlying54 rfl (by kernel_rfl)) rfl ?_
  refine ⟨some ⟨w.heap.size + 1, 0, none⟩, 1, rfl, ?_, ((Below.refl _ _).alloc (Nat.le_refl _) _).alloc (by simp) _⟩
  rw [HV.out]
  have h9 := own_lit (w.alloc (.cells #[.int .i64 (t : Int), .int .i64 (i : Int), .int .i64 2, .slice (some ⟨w.heap.size + 1, 0, none⟩) 1 1] 54)) 5 [.int .u8 ((t : Int) % 256)] 1 rfl
  rw [World.size_alloc] at h9
  exact own_lower h9 (by omega)
def v0 : Vw := ⟨0, 0, [entC 1 1, entC 1 2, entC 2 3]⟩
theorem nth_v0 : nthV 3 [3, 3, 0] = 3 := by
  have e : nthV 3 [3, 3, 0] = nthN [3, 3, 0] := by
    unfold nthV
    rw [if_neg (by decide)]
    rfl
  rw [e]
  have h1 := nth_iff (P := [3, 3, 0]) (by decide) 3
  have h2 := nth_iff (P := [3, 3, 0]) (by decide) 4
  have c1 : cntN [3, 3, 0] 3 = 2 := by decide
  have c2 : cntN [3, 3, 0] 4 = 0 := by decide
  have q : quorN ([3, 3, 0] : List Int).length = 2 := by decide
  rw [c1, q] at h1
  rw [c2, q] at h2
  omega
theorem right_entC {t i : Nat} (h1 : 1 ≤ t) (h2 : t < 1099511627776) (h3 : 1 ≤ i) (h4 : i < 1099511627776) : rightE (entC t i) = true := by
  unfold rightE entC
  dsimp only
  rw [decide_eq_true (show (1 : Int) ≤ (t : Int) by omega), decide_eq_true (show (t : Int) < 1099511627776 by omega), decide_eq_true (show (1 : Int) ≤ (i : Int) by omega), decide_eq_true (show (i : Int) < 1099511627776 by omega)]
  simp
theorem right_v0 : rightV v0 = true := by
  refine rightV_iff.2 ⟨by decide, by decide, by decide, by decide, by decide, ?_⟩
  unfold v0
  dsimp only
  rw [rowB_good (right_entC (by decide) (by decide) (by decide) (by decide)) (by decide) (by decide), rowB_good (right_entC (by decide) (by decide) (by decide) (by decide)) (by decide) (by decide), rowB_good (right_entC (by decide) (by decide) (by decide) (by decide)) (by decide) (by decide)]
  rfl
theorem commit_v0a {r : Int} (h : CommitIs v0 3 0 2 r) : r = 3 :=
  h.one (.inr ⟨right_v0, .inl ⟨3, by decide, by decide, by decide, by decide, by decide, fun m a b c => absurd b (by omega), rfl⟩⟩)
theorem commit_v0b {r : Int} (h : CommitIs v0 3 0 1 r) : r = 2 :=
  h.one (.inr ⟨right_v0, .inl ⟨2, by decide, by decide, by decide, by decide, by decide, fun m a b c => by
    obtain rfl : m = 3 := by omega
    decide, rfl⟩⟩)
theorem commit_v0c {r : Int} (h : CommitIs v0 3 0 3 r) : r = 0 :=
  h.one (.inr ⟨right_v0, .inr ⟨fun m a b c d => by
    have b' : (0 : Int) < m := b
    have h3 : m = 1 ∨ m = 2 ∨ m = 3 := by omega
    rcases h3 with rfl | rfl | rfl <;> decide, rfl⟩⟩)
/-- Three entries in a row. -/
theorem seen_three {W : World} {x y z : Ent} {A B C : Option Addr} {p q r a b c : Nat} (hx : x.data.length = p) (hy : y.data.length = q) (hz : z.data.length = r)
    (ha : W.ownsRow 0 5 1 (.slice A p a) p (u8s x.data)) (hb : W.ownsRow 0 5 1 (.slice B q b) q (u8s y.data)) (hc : W.ownsRow 0 5 1 (.slice C r c) r (u8s z.data)) (cells : Array Value) (hcells : cells.toList = x.cells (.slice A p a) ++ y.cells (.slice B q b) ++ z.cells (.slice C r c)) :
    SeenE (W.alloc (.cells cells 54)) (some ⟨W.heap.size, 0, none⟩) [x, y, z] := by
  have hal : Below W.heap.size W (W.alloc (.cells cells 54)) := (Below.refl _ _).alloc (Nat.le_refl _) _
  have s := sees_new W cells 54
  rw [hcells] at s
  subst hx hy hz
  have e1 : EntR (W.alloc (.cells cells 54)) x (x.cells (.slice A x.data.length a)) := ⟨A, a, rfl, (sees_own' ha).2.1, ((sees_own' ha).2.2.2).below hal⟩
  have e2 : EntR (W.alloc (.cells cells 54)) y (y.cells (.slice B y.data.length b)) := ⟨B, b, rfl, (sees_own' hb).2.1, ((sees_own' hb).2.2.2).below hal⟩
  have e3 : EntR (W.alloc (.cells cells 54)) z (z.cells (.slice C z.data.length c)) := ⟨C, c, rfl, (sees_own' hc).2.1, ((sees_own' hc).2.2.2).below hal⟩
  have r1 : Recs EntR 4 (W.alloc (.cells cells 54)) [x] (x.cells (.slice A x.data.length a)) := Recs.nil.snoc (x := x) rfl e1
  have r2 : Recs EntR 4 (W.alloc (.cells cells 54)) [x, y] (x.cells (.slice A x.data.length a) ++ y.cells (.slice B y.data.length b)) := r1.snoc (x := y) rfl e2
  have r3 : Recs EntR 4 (W.alloc (.cells cells 54)) [x, y, z] (x.cells (.slice A x.data.length a) ++ y.cells (.slice B y.data.length b) ++ z.cells (.slice C z.data.length c)) := r2.snoc (x := z) rfl e3
  exact ⟨_, s, r3⟩
theorem small_v0 : SmallE v0.l := by
  intro x hx
  unfold v0 at hx
  simp only [List.mem_cons, List.not_mem_nil, or_false] at hx
  rcases hx with rfl | rfl | rfl <;> (unfold entC; decide)
theorem begin_any (n : Nat) (w : World) (hn : n ≤ 1099511627776) : Calls Try.prog 15 #[.int .i64 (n : Int)] w fun e w' => e = .returned (.agg #[.int .i64 ((n : Int) + 1), .int .i64 0]) ∧ Below w.heap.size w w' := by
  have hm : max (n : Int) 0 = (n : Int) := by omega
  go_enter Try.func15, Try.ntmps15
  go_wp2_with fail
  refine bodyPost_ret (v := .agg #[.int .i64 ((n : Int) + 1), .int .i64 0]) (results_cell_row rfl _ _ _ _ _ _ _ rfl (heap_alloc_new w _) Try.underlying38 rfl (by kernel_rfl)) rfl ?_
  exact ⟨rfl, (Below.refl _ _).alloc (Nat.le_refl _) _⟩
theorem entry_at (t i : Nat) (ti ii : Int) (w : World) (ht : t < 9223372036854775808) (e1 : (t : Int) = ti) (e2 : (i : Int) = ii) : Calls Try.prog 31 #[.int .i64 ti, .int .i64 ii] w fun e w' => ∃ A c, e = .returned (.agg #[.int .i64 ti, .int .i64 ii, .int .i64 2, .slice A 1 c]) ∧ w'.ownsRow w.heap.size 5 1 (.slice A 1 c) 1 (u8s [UInt8.ofNat t]) ∧ Below w.heap.size w w' := by
  subst e1 e2
  refine (entry_any t i w ht).mono ?_
  rintro e w' ⟨A, c, rfl, h1, h2⟩
  exact ⟨A, c, rfl, h1, h2⟩
theorem field_peer0 (a b : Int) (W : World) : (Instr.field 38 (.agg #[.int .i64 a, .int .i64 b]) 0).run Try.prog W = .ok (.int .i64 a) W := by kernel_rfl
theorem field_peer1 (a b : Int) (W : World) : (Instr.field 38 (.agg #[.int .i64 a, .int .i64 b]) 1).run Try.prog W = .ok (.int .i64 b) W := by kernel_rfl
def RetCom (r : Int) (w : World) (e : Ending) (w' : World) : Prop := e = .returned (.int .i64 r) ∧ Below w.heap.size w w'
set_option maxRecDepth 16384 in
set_option maxHeartbeats 8000000 in
theorem knows_any (w : World) : Calls Try.prog 12 #[] w (RetBool w true) := by
  have HE1 := Lib.hid (fun W' => entry_at 1 1 1 1 W' (by decide) rfl rfl)
  have HE2 := Lib.hid (fun W' => entry_at 1 2 1 2 W' (by decide) rfl rfl)
  have HE3 := Lib.hid (fun W' => entry_at 2 3 2 3 W' (by decide) rfl rfl)
  go_enter Try.func12, Try.ntmps12
  go_upto_region 2 with (first
    | (have hx := HX2; go_at_call 31; refine (HE3.out _).mono ?_; rintro e w3 ⟨A3, c3, rfl, ho3, hb3⟩; have HX3 := Lib.hid hb3; have HO1' := Lib.hid (own_keep HO1.out hb3); have HO2' := Lib.hid (own_keep HO2.out hb3); have HO3 := Lib.hid (own_lower ho3 (Nat.zero_le _)); have HB3 := Lib.hid (below_step HB2.out HB2.out.size hb3); clear ho3 hb3)
    | (have hx := HX1; go_at_call 31; refine (HE2.out _).mono ?_; rintro e w2 ⟨A2, c2, rfl, ho2, hb2⟩; have HX2 := Lib.hid hb2; have HO1 := Lib.hid (own_keep HO0.out hb2); have HO2 := Lib.hid (own_lower ho2 (Nat.zero_le _)); have HB2 := Lib.hid (below_step HB1.out HB1.out.size hb2); clear ho2 hb2)
    | (go_at_call 31; refine (HE1.out _).mono ?_; rintro e w1 ⟨A1, c1, rfl, ho1, hb1⟩; have HX1 := Lib.hid hb1; have HO0 := Lib.hid (own_lower ho1 (Nat.zero_le _)); have HB1 := Lib.hid hb1; clear ho1 hb1)
    | (go_at_call 8; refine (view_any v0 (some ⟨w3.heap.size, 0, none⟩) 3 3 _ rfl (by decide) (seen_three (x := entC 1 1) (y := entC 1 2) (z := entC 2 3) rfl rfl rfl HO1'.out HO2'.out HO3.out _ rfl) small_v0).mono ?_; rintro e w4 ⟨A4, n4, c4, rfl, hn4, ho4, hb4⟩; have HB4 := Lib.hid (below_step (HB3.out.alloc HB3.out.size _) (by have := HB3.out.size; simp; omega) hb4); have HO4 := Lib.hid (OwnsE.lower ho4 (Nat.zero_le _)); obtain rfl : n4 = 3 := hn4; have ev : v0.val (.slice A4 3 c4) = .agg #[.int .i64 0, .int .i64 0, .slice A4 3 c4] := rfl; rw [ev]; clear hb4 ho4 ev)
    | fail)
  obtain ⟨w5, hw5⟩ : ∃ w5, w4.alloc (.cells #[.int .i64 0, .int .i64 0, .slice A4 3 c4] 26) = w5 := ⟨_, rfl⟩
  have hb5 : Below w4.heap.size w4 w5 := by rw [← hw5]; exact (Below.refl _ _).alloc (Nat.le_refl _) _
  have hrow5 : w5.heap[w4.heap.size]? = some (.cells #[.int .i64 0, .int .i64 0, .slice A4 3 c4] 26 (0, 0)) := by rw [← hw5]; exact heap_alloc_new _ _
  rw [hw5]
  obtain ⟨gv, hgv⟩ : ∃ gv, w4.heap.size = gv := ⟨_, rfl⟩
  rw [hgv] at hrow5
  try rw [hgv]
  have HSE := Lib.hid ((HO4.out.below hb5).see.1)
  have HB5 := Lib.hid (below_step HB4.out HB4.out.size hb5)
  have HR5 := Lib.hid hrow5
  clear hw5 hb5 hrow5 hgv
  go_upto_region 4 with (fail)
  obtain ⟨w7, hw7⟩ : ∃ w7, (w5.alloc (.cells #[.int .i64 0, .int .i64 1, .int .i64 2] 3)).alloc (.cells #[.int .i64 3, .int .i64 3, .int .i64 0] 3) = w7 := ⟨_, rfl⟩
  have hb7 : Below w5.heap.size w5 w7 := by rw [← hw7]; exact ((Below.refl _ _).alloc (Nat.le_refl _) _).alloc (by simp) _
  have hM : Sees w7 (some ⟨w5.heap.size + 1, 0, none⟩) (([3, 3, 0] : List Int).map i64v) := by
    rw [← hw7]
    have := sees_new (w5.alloc (.cells #[.int .i64 0, .int .i64 1, .int .i64 2] 3)) #[.int .i64 3, .int .i64 3, .int .i64 0] 3
    rw [World.size_alloc] at this
    exact this
  have hsz5 : gv < w5.heap.size := (Array.getElem?_eq_some_iff.1 HR5.out).1
  obtain ⟨g5, hg5⟩ : ∃ g5, w5.heap.size = g5 := ⟨_, rfl⟩
  rw [hg5] at hM
  rw [hw7]
  try rw [hg5]
  have HM := Lib.hid hM
  have HR7 : Hid (∀ W', Below w7.heap.size w7 W' → W'.cell? ⟨gv, 0, none⟩ = some (.int .i64 0) ∧ W'.cell? ⟨gv, 1, none⟩ = some (.int .i64 0) ∧ W'.cell? ⟨gv, 2, none⟩ = some (.slice A4 3 c4)) := Lib.hid (fun W' hb' => by
    have h9 := (hb'.block gv (Nat.lt_of_lt_of_le hsz5 hb7.size)).trans ((hb7.block gv hsz5).trans HR5.out)
    exact ⟨by rw [cell_of_row W' gv 0 _ _ _ h9]; rfl, by rw [cell_of_row W' gv 1 _ _ _ h9]; rfl, by rw [cell_of_row W' gv 2 _ _ _ h9]; rfl⟩)
  have HSE7 := Lib.hid (HSE.out.below hb7)
  have HB7 := Lib.hid (below_step HB5.out HB5.out.size hb7)
  have HC := Lib.hid (fun W' (hb' : Below w7.heap.size w7 W') (term : Int) => commit_any v0 A4 3 c4 (some ⟨g5, 0, none⟩) (some ⟨g5 + 1, 0, none⟩) 3 3 3 [3, 3, 0] 0 term W' rfl (by decide) (HSE7.out.below hb') small_v0 (by decide) (by decide) (by decide) (HM.out.below hb'))
  have HC2 : Hid (∀ W', Below w7.heap.size w7 W' → Calls Try.prog 9 #[.agg #[.int .i64 0, .int .i64 0, .slice A4 3 c4], .slice (some ⟨g5, 0, none⟩) 3 3, .slice (some ⟨g5 + 1, 0, none⟩) 3 3, .int .i64 0, .int .i64 2] W' (RetCom 3 W')) := Lib.hid (fun W' hb' => (HC.out W' hb' 2).mono (by
    rintro e w' ⟨r, rfl, hr, hb⟩
    rw [nth_v0] at hr
    rw [commit_v0a hr]
    exact ⟨rfl, hb⟩))
  have HC1 : Hid (∀ W', Below w7.heap.size w7 W' → Calls Try.prog 9 #[.agg #[.int .i64 0, .int .i64 0, .slice A4 3 c4], .slice (some ⟨g5, 0, none⟩) 3 3, .slice (some ⟨g5 + 1, 0, none⟩) 3 3, .int .i64 0, .int .i64 1] W' (RetCom 2 W')) := Lib.hid (fun W' hb' => (HC.out W' hb' 1).mono (by
    rintro e w' ⟨r, rfl, hr, hb⟩
    rw [nth_v0] at hr
    rw [commit_v0b hr]
    exact ⟨rfl, hb⟩))
  have HC3 : Hid (∀ W', Below w7.heap.size w7 W' → Calls Try.prog 9 #[.agg #[.int .i64 0, .int .i64 0, .slice A4 3 c4], .slice (some ⟨g5, 0, none⟩) 3 3, .slice (some ⟨g5 + 1, 0, none⟩) 3 3, .int .i64 0, .int .i64 3] W' (RetCom 0 W')) := Lib.hid (fun W' hb' => (HC.out W' hb' 3).mono (by
    rintro e w' ⟨r, rfl, hr, hb⟩
    rw [nth_v0] at hr
    rw [commit_v0c hr]
    exact ⟨rfl, hb⟩))
  have hfd := field_peer0 5 0
  obtain ⟨q0, q1, q2⟩ := HR7.out w7 (Below.refl _ _)
  clear hw7 hb7 hM hsz5 hg5 HC HSE
  go_wp2_with (first
    | (have hx := HZ2; go_at_call 9; refine (HC3.out _ HZ2.out).mono ?_; rintro e w10 ⟨rfl, hb10⟩; have HZ3 := Lib.hid (below_step HZ2.out HZ2.out.size hb10); clear hb10)
    | (have hx := HZ1; go_at_call 9; refine (HC1.out _ HZ1.out).mono ?_; rintro e w9 ⟨rfl, hb9⟩; have HZ2 := Lib.hid (below_step HZ1.out HZ1.out.size hb9); obtain ⟨u0, u1, u2⟩ := HR7.out w9 (below_step HZ1.out HZ1.out.size hb9); clear hb9)
    | (go_at_call 9; refine (HC2.out _ (Below.refl _ _)).mono ?_; rintro e w8 ⟨rfl, hb8⟩; have HZ1 := Lib.hid hb8; obtain ⟨r0, r1, r2⟩ := HR7.out w8 hb8; clear hb8)
    | (go_at_call 15; refine (begin_any 4 _ (by decide)).mono ?_; rintro e w11 ⟨rfl, hb11⟩; have HZ4 := Lib.hid (below_step HZ3.out HZ3.out.size hb11); clear hb11)
    | fail)
  go_ret
  exact ⟨rfl, below_step HB7.out HB7.out.size HZ4.out⟩
end Go.Proofs.Ytlcnpfiiijehmaa
