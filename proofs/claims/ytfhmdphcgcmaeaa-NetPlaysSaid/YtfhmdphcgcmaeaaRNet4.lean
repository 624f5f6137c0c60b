/-
  The reference's net: Send.
-/
import Derived.Test.YtfhmdphcgcmaeaaRNet3
import Derived.RegionTactic
import Derived.Test.YtfhmdphcgcmaeaaPhase
set_option linter.unusedVariables false
set_option linter.unusedSimpArgs false
namespace Go.Proofs.Ytfhmdphcgcmaeaa
open Go.RowKit

section
variable {S : Nat → Prop} {g : Nat} {most : Int} {ls : List Lt} {ids : List Int}
theorem refsend_done {w W w4 w6 : World} {R B : Option Addr} {cr d : Nat} {cells : List Value} {f t : Int} {bs : List UInt8} {A4 : Option Addr} {c4 : Nat} {A6 : Option Addr} {c6 : Nat}
    (hr : RefAtC S g most ls ids w R cr cells B d)
    (hBW : Below w.heap.size w W) (hb4 : Below W.heap.size W w4) (hown4 : w4.ownsRow W.heap.size 5 1 (.slice A4 bs.length c4) bs.length (u8s bs))
    (hown6 : w6.ownsRow 0 35 3 (.slice A6 (ls.length + 1) c6) (ls.length + 1) (cells ++ [.int .i64 f, .int .i64 t, .slice A4 bs.length c4])) (hg6 : (w4.alloc (.cells #[.int .i64 f, .int .i64 t, .slice A4 bs.length c4] 35)).grownBy w6 (Value.slice R ls.length cr).ownBlock)
    (hat6 : (Value.slice A6 (ls.length + 1) c6).ownBlock = (Value.slice R ls.length cr).ownBlock ∨ (Value.slice A6 (ls.length + 1) c6).ownBlock = some (w4.alloc (.cells #[.int .i64 f, .int .i64 t, .slice A4 bs.length c4] 35)).heap.size)
    (z1 : w6.heap[g]? = some (refObj most R ls.length cr B ids.length d)) :
    RefAt (Plus S w) g most (ls ++ [(f, t, bs)]) ids (w6.setCell ⟨g, 1, none⟩ (.slice A6 (ls.length + 1) c6)) ∧ Outside S w (w6.setCell ⟨g, 1, none⟩ (.slice A6 (ls.length + 1) c6)) := by
  have hB4 := below_step hBW hBW.size hb4
  have hz := hB4.size
  have hzW := hBW.size
  have hgl := (Array.getElem?_eq_some_iff.1 hr.row).1
  have ho4 := own_alloc' (own_keep hr.lrow hB4) (.cells #[.int .i64 f, .int .i64 t, .slice A4 bs.length c4] 35)
  have hlen : (ls ++ [(f, t, bs)]).length = ls.length + 1 := by simp
  have hset : ∀ {b s n : Nat} {e : TypeId} {v : Value} {xs : List Value}, w6.ownsRow b e s v n xs → e ≠ 67 → (w6.setCell ⟨g, 1, none⟩ (.slice A6 (ls.length + 1) c6)).ownsRow b e s v n xs := fun h he =>
    own_same h (fun b hb => Below.heap_setCell w6 _ _ b (fun e1 => own_ne h z1 he (by rw [hb, e1])))
  have hkeep : ∀ {b s n : Nat} {e : TypeId} {v : Value} {xs : List Value}, w4.ownsRow b e s v n xs → e ≠ 35 → e ≠ 67 → (w6.setCell ⟨g, 1, none⟩ (.slice A6 (ls.length + 1) c6)).ownsRow b e s v n xs := fun h he he2 =>
    hset (own_apart (own_alloc' h (.cells #[.int .i64 f, .int .i64 t, .slice A4 bs.length c4] 35)) ho4 he hg6) he2
  refine ⟨⟨A6, c6, cells ++ [.int .i64 f, .int .i64 t, .slice A4 bs.length c4], B, d, by rw [hlen]; exact refRow_set z1, .inl hr.own, by rw [hlen]; exact hset hown6 (by decide), ?_, ?_, hkeep (own_keep hr.irow hB4) (by decide) (by decide), fun b hb => .inl (hr.iin b hb)⟩, ?_⟩
  · intro b hb
    rw [hlen] at hb
    rcases hat6 with h | h
    · exact .inl (hr.lin b (by rw [← h]; exact hb))
    · rw [hb] at h
      have h := Option.some.inj h
      refine .inr ?_
      rw [h]
      simp
      omega
  · refine (hr.recs.imp fun j l cs _ hl => ?_).snoc rfl ⟨A4, c4, rfl, own_lower (hkeep hown4 (by decide) (by decide)) (Nat.zero_le _), fun b hb => .inr (Nat.le_trans hzW (own_block_ge hown4 b hb).1)⟩
    obtain ⟨A1, c1, e, ho, hs⟩ := hl
    exact ⟨A1, c1, e, hkeep (own_keep ho hB4) (by decide) (by decide), fun b hb => .inl (hs b hb)⟩
  · have hba := hB4.alloc hB4.size (.cells #[.int .i64 f, .int .i64 t, .slice A4 bs.length c4] 35)
    refine ⟨hg6.os.trans hba.os, hg6.tape.trans hba.tape, hg6.output.trans hba.output, Nat.le_trans hba.size (by simpa [World.setCell] using hg6.size), fun b hb hs => ?_⟩
    rw [Below.heap_setCell w6 ⟨g, 1, none⟩ _ b (fun e => hs (by rw [e]; exact hr.own))]
    exact (hg6.block b (Nat.lt_of_lt_of_le hb hba.size) (fun e => hs (hr.lin b e.symm))).trans (hba.block b hb)
def RetSendR (S : Nat → Prop) (g : Nat) (most : Int) (ls : List Lt) (ids : List Int) (l : Lt) (w : World) (e : Ending) (w' : World) : Prop :=
  RetR S g most (.int .i64 (sendE most ls.length l)) (if sendE most ls.length l = 0 then ls ++ [l] else ls) ids w e w'
set_option maxHeartbeats 2000000 in
theorem refsend_any (f t : Int) (A : Option Addr) (bs : List UInt8) (c : Nat) (w : World) (h : RefAt S g most ls ids w) (hm : 1 ≤ most) (hm2 : most ≤ 10000) (hls : (ls.length : Int) ≤ most)
    (hc : bs.length ≤ c) (hl : bs.length ≤ 140737488355328) (hA : Sees w A (u8s bs)) :
    Calls Try.prog 31 #[.pointer (some ⟨g, 0, none⟩), .agg #[.int .i64 f, .int .i64 t, .slice A bs.length c]] w (RetSendR S g most ls ids (f, t, bs) w) := by
  obtain ⟨R, cr, cells, B, d, hr⟩ := id h
  obtain ⟨k0, k1, _, hfz⟩ := ref_cells hr.row
  have h1 := hr.row
  have hgl := (Array.getElem?_eq_some_iff.1 h1).1
  have hal := (Below.refl w.heap.size w).alloc (Nat.le_refl _) (.cells #[.int .i64 f, .int .i64 t, .slice A bs.length c] 35)
  have hrt : right4 f t bs.length = rightB (f, t, bs) := rfl
  have HRT := Lib.hid hrt
  have H := Lib.hid h
  have HR := Lib.hid hr
  clear hrt h hr
  cases hb : rightB (f, t, bs) with
  | false =>
    have hse : sendE most ls.length (f, t, bs) = 1 := by simp [sendE, hb]
    have HSE := Lib.hid hse
    clear hse h1
    go_enter Try.func31, Try.ntmps31
    go_wp2_with (first
      | (go_at_call 41; refine (refright_any f t A bs.length c _ hl).mono ?_; rintro e w2 ⟨rfl, hb2⟩; rw [HRT.out, hb])
      | fail)
    go_ret
    have hB := below_step hal (by simp) hb2
    refine ⟨by rw [HSE.out]; rfl, ?_, Outside.of_below hB⟩
    rw [HSE.out, if_neg (by decide)]
    exact (H.out.below hB).mono (fun b _ hb => .inl hb)
  | true =>
    by_cases hfull : most ≤ (ls.length : Int)
    · have hse : sendE most ls.length (f, t, bs) = 7 := by simp [sendE, hb, hfull]
      have HSE := Lib.hid hse
      clear hse h1
      go_enter Try.func31, Try.ntmps31
      go_wp2_with (first
        | (go_at_call 41; refine (refright_any f t A bs.length c _ hl).mono ?_; rintro e w2 ⟨rfl, hb2⟩; rw [HRT.out, hb]; have hB := below_step hal (by simp) hb2; have m0 := (hB.cell (p := ⟨g, 0, none⟩) hgl).trans k0; have m1 := (hB.cell (p := ⟨g, 1, none⟩) hgl).trans k1)
        | fail)
      go_quiet (fail)
      go_wp2
      go_ret
      refine ⟨by rw [HSE.out]; rfl, ?_, Outside.of_below (below_draws hB _)⟩
      rw [HSE.out, if_neg (by decide)]
      exact (H.out.below (below_draws hB _)).mono (fun b _ hb => .inl hb)
    · have hse : sendE most ls.length (f, t, bs) = 0 := by simp [sendE, hb, hfull]
      have HSE := Lib.hid hse
      clear hse
      go_enter Try.func31, Try.ntmps31
      go_wp2_with (first
        | (go_at_call 41; refine (refright_any f t A bs.length c _ hl).mono ?_; rintro e w2 ⟨rfl, hb2⟩; rw [HRT.out, hb]; have hB := below_step hal (by simp) hb2; have m0 := (hB.cell (p := ⟨g, 0, none⟩) hgl).trans k0; have m1 := (hB.cell (p := ⟨g, 1, none⟩) hgl).trans k1)
        | fail)
      go_quiet (fail)
      go_wp2
      have hbw := below_draws hB nq
      have x0 : (w.alloc (.cells #[.int .i64 f, .int .i64 t, .slice A bs.length c] 35)).heap[w.heap.size]? = some (.cells #[.int .i64 f, .int .i64 t, .slice A bs.length c] 35 (0, 0)) := heap_alloc_new w _
      have x2 := (hb2.block w.heap.size (by simp)).trans x0
      obtain ⟨W, hW⟩ : ∃ W, w2.drewN nq = W := ⟨_, rfl⟩
      have hBW : Below w.heap.size w W := by rw [← hW]; exact hbw
      have xW : W.heap[w.heap.size]? = some (.cells #[.int .i64 f, .int .i64 t, .slice A bs.length c] 35 (0, 0)) := by rw [← hW]; exact x2
      have hzW : w.heap.size < W.heap.size := (Array.getElem?_eq_some_iff.1 xW).1
      rw [hW]
      have hgW : W.heap[g]? = some (refObj most R ls.length cr B ids.length d) := (hBW.block g hgl).trans h1
      have hoW := own_keep HR.out.lrow hBW
      have hAW := hA.below hBW
      have hSb : ∀ W' : World, W'.heap[g]? = some (refObj most R ls.length cr B ids.length d) → W'.heap[w.heap.size]? = some (.cells #[.int .i64 f, .int .i64 t, .slice A bs.length c] 35 (0, 0)) → W'.cell? ⟨g, 1, none⟩ = some (.slice R ls.length cr) ∧ W'.cell? ⟨w.heap.size, 0, none⟩ = some (.int .i64 f) ∧ W'.cell? ⟨w.heap.size, 1, none⟩ = some (.int .i64 t) ∧ W'.cell? ⟨w.heap.size, 2, none⟩ = some (.slice A bs.length c) := by
        intro W' y1 y2
        refine ⟨(ref_cells y1).2.1, ?_, ?_, ?_⟩
        · rw [cell_of_row W' _ 0 _ _ _ y2]; rfl
        · rw [cell_of_row W' _ 1 _ _ _ y2]; rfl
        · rw [cell_of_row W' _ 2 _ _ _ y2]; rfl
      have hgl' := (Array.getElem?_eq_some_iff.1 hgW).1
      have hS : ∀ W', Below W.heap.size W W' → W'.cell? ⟨g, 1, none⟩ = some (.slice R ls.length cr) ∧ W'.cell? ⟨w.heap.size, 0, none⟩ = some (.int .i64 f) ∧ W'.cell? ⟨w.heap.size, 1, none⟩ = some (.int .i64 t) ∧ W'.cell? ⟨w.heap.size, 2, none⟩ = some (.slice A bs.length c) := fun W' hb' => hSb W' ((hb'.block g hgl').trans hgW) ((hb'.block w.heap.size hzW).trans xW)
      have hRb : ∀ k, (Value.slice R ls.length cr).ownBlock = some k → k < w.heap.size := fun k hk => (own_block_ge HR.out.lrow k hk).2
      have hcr : ls.length ≤ cr := (sees_own' HR.out.lrow).2.1
      have HSb := Lib.hid hSb
      have HSS := Lib.hid hS
      have HRB := Lib.hid hRb
      have HXW := Lib.hid xW
      have HGW := Lib.hid hgW
      have HOW := Lib.hid hoW
      have HAW := Lib.hid hAW
      have HBW := Lib.hid hBW
      have hba0 : Below W.heap.size W (W.alloc (.cells #[] 5)).drew := ((Below.refl W.heap.size W).alloc (Nat.le_refl _) _).drew
      have hcb : ∀ W' : World, W'.heap[w.heap.size]? = some (.cells #[.int .i64 f, .int .i64 t, .slice A bs.length c] 35 (0, 0)) → W'.cell? ⟨w.heap.size, 0, none⟩ = some (.int .i64 f) ∧ W'.cell? ⟨w.heap.size, 1, none⟩ = some (.int .i64 t) ∧ W'.cell? ⟨w.heap.size, 2, none⟩ = some (.slice A bs.length c) := fun W' y2 => ⟨by rw [cell_of_row W' _ 0 _ _ _ y2]; rfl, by rw [cell_of_row W' _ 1 _ _ _ y2]; rfl, by rw [cell_of_row W' _ 2 _ _ _ y2]; rfl⟩
      have HCB := Lib.hid hcb
      have hgne : w.heap.size ≠ g := by omega
      have HA0 := Lib.hid hba0
      have i0 := hcb W xW
      have i1 := hcb W.drew xW
      have i2 := hcb _ ((hba0.block w.heap.size hzW).trans xW)
      have g0 := (hS W (Below.refl _ _)).1
      have g1 := (hS W.drew (Below.refl _ _).drew).1
      have g2 := (hS _ hba0).1
      clear m0 m1 k0 k1 hal hb2 hB hbw x0 x2 hW hS hSb hRb xW hgW hoW hAW hBW hba0 h1 hfz hcb
      refine wp_region_T 18 (fun W' => W'.cell? ⟨g, 1, none⟩ = some (.slice R ls.length cr) ∧ W'.cell? ⟨w.heap.size, 0, none⟩ = some (.int .i64 f) ∧ W'.cell? ⟨w.heap.size, 1, none⟩ = some (.int .i64 t) ∧ W'.cell? ⟨w.heap.size, 2, none⟩ = some (.slice A bs.length c)) (by kernel_rfl) ?_
      have hS0 := And.intro g1 i1
      refine wpAnyT_take (i := 0) (v := ?v0) rfl (by kernel_rfl) (by kernel_rfl) (by kernel_rfl) (by kernel_rfl) (fun _ _ _ h => h) rfl (fun w' hS => ?y0) hS0 ?z0
      case y0 => (obtain ⟨s1, s2, s3, s4⟩ := hS; go_simp; with_reducible rfl)
      try simp only [Act.put, List.setIfInBounds_toArray, List.set_cons_zero, List.set_cons_succ]
      refine wpAnyT_take (i := 1) (v := ?v1) rfl (by kernel_rfl) (by kernel_rfl) (by kernel_rfl) (by kernel_rfl) (fun _ _ _ h => h) rfl (fun w' hS => ?y1) hS0 ?z1
      case y1 => (obtain ⟨s1, s2, s3, s4⟩ := hS; go_simp; with_reducible rfl)
      try simp only [Act.put, List.setIfInBounds_toArray, List.set_cons_zero, List.set_cons_succ]
      refine wpAnyT_take (i := 2) (v := ?v2) rfl (by kernel_rfl) (by kernel_rfl) (by kernel_rfl) (by kernel_rfl) (fun _ _ _ h => h) rfl (fun w' hS => ?y2) hS0 ?z2
      case y2 => (obtain ⟨s1, s2, s3, s4⟩ := hS; go_simp; with_reducible rfl)
      try simp only [Act.put, List.setIfInBounds_toArray, List.set_cons_zero, List.set_cons_succ]
      refine wpAnyT_take (i := 3) (v := ?v3) rfl (by kernel_rfl) (by kernel_rfl) (by kernel_rfl) (by kernel_rfl) (fun _ _ _ h => h) rfl (fun w' hS => ?y3) hS0 ?z3
      case y3 => (obtain ⟨s1, s2, s3, s4⟩ := hS; go_simp; with_reducible rfl)
      try simp only [Act.put, List.setIfInBounds_toArray, List.set_cons_zero, List.set_cons_succ]
      refine wpAnyT_take (i := 4) (v := ?v4) rfl (by kernel_rfl) (by kernel_rfl) (by kernel_rfl) (by kernel_rfl) (fun _ _ _ h => h) rfl (fun w' hS => ?y4) hS0 ?z4
      case y4 => (obtain ⟨s1, s2, s3, s4⟩ := hS; go_simp; with_reducible rfl)
      try simp only [Act.put, List.setIfInBounds_toArray, List.set_cons_zero, List.set_cons_succ]
      refine wpAnyT_take (i := 5) (v := ?v5) rfl (by kernel_rfl) (by kernel_rfl) (by kernel_rfl) (by kernel_rfl) (fun _ _ _ h => h) rfl (fun w' hS => ?y5) hS0 ?z5
      case y5 => (obtain ⟨s1, s2, s3, s4⟩ := hS; go_simp; with_reducible rfl)
      try simp only [Act.put, List.setIfInBounds_toArray, List.set_cons_zero, List.set_cons_succ]
      refine wpAnyT_take (i := 6) (v := ?v6) rfl (by kernel_rfl) (by kernel_rfl) (by kernel_rfl) (by kernel_rfl) (fun _ _ _ h => h) rfl (fun w' hS => ?y6) hS0 ?z6
      case y6 => (obtain ⟨s1, s2, s3, s4⟩ := hS; go_simp; with_reducible rfl)
      try simp only [Act.put, List.setIfInBounds_toArray, List.set_cons_zero, List.set_cons_succ]
      refine wpAnyT_take (i := 7) (v := ?v7) rfl (by kernel_rfl) (by kernel_rfl) (by kernel_rfl) (by kernel_rfl) (fun _ _ _ h => h) rfl (fun w' hS => ?y7) hS0 ?z7
      case y7 => (obtain ⟨s1, s2, s3, s4⟩ := hS; go_simp; with_reducible rfl)
      try simp only [Act.put, List.setIfInBounds_toArray, List.set_cons_zero, List.set_cons_succ]
      refine wpAnyT_take (i := 8) (v := ?v8) rfl (by kernel_rfl) (by kernel_rfl) (by kernel_rfl) (by kernel_rfl) (fun _ _ _ h => h) rfl (fun w' hS => ?y8) hS0 ?z8
      case y8 => (obtain ⟨s1, s2, s3, s4⟩ := hS; go_simp; with_reducible rfl)
      try simp only [Act.put, List.setIfInBounds_toArray, List.set_cons_zero, List.set_cons_succ]
      refine wpAnyT_take (i := 10) (v := ?v10) rfl (by kernel_rfl) (by kernel_rfl) (by kernel_rfl) (by kernel_rfl) (fun _ _ _ h => h) rfl (fun w' hS => ?y10) hS0 ?z10
      case y10 => (obtain ⟨s1, s2, s3, s4⟩ := hS; go_simp; with_reducible rfl)
      try simp only [Act.put, List.setIfInBounds_toArray, List.set_cons_zero, List.set_cons_succ]
      refine wpAnyT_take (i := 11) (v := ?v11) rfl (by kernel_rfl) (by kernel_rfl) (by kernel_rfl) (by kernel_rfl) (fun _ _ _ h => h) rfl (fun w' hS => ?y11) hS0 ?z11
      case y11 => (obtain ⟨s1, s2, s3, s4⟩ := hS; go_simp; with_reducible rfl)
      try simp only [Act.put, List.setIfInBounds_toArray, List.set_cons_zero, List.set_cons_succ]
      refine wpAnyT_one (i := 9) (by kernel_rfl) rfl (fun K' hK => ?_)
      have HK := Lib.hid hK
      clear hK
      go_simp
      refine HK.out _ _ (.inr ⟨g2, i2⟩) ?_
      clear HK
      try simp only [Act.put, List.setIfInBounds_toArray, List.set_cons_zero, List.set_cons_succ]
      refine wpAnyT_one (i := 12) (by kernel_rfl) rfl (fun K' hK => ?_)
      have HK := Lib.hid hK
      clear hK
      (refine step_append_sees rfl (.tmp 27) (.tmp 29) 31 (by rfl) W.heap.size 5 (.int .u8 0) 1 1 Try.underlying31 infoU8 rfl (by decide) (.slice (some ⟨W.heap.size, 0, none⟩) 0 0) 0 [] (by rfl) (by exact own_made0 W _ 1) A bs.length c (u8s bs) (by rfl) (by simp [u8s]) (by exact HAW.out.below HA0.out) (u8s_one _) (by simp only [maxLen]; omega) (by omega) (by simp) ?_; intro A4 c4 w4 hown4' hg4 hat4; have hb4 : Below W.heap.size W w4 := below_grown_own HA0.out (by simp) (own_made0 W 5 1) (Nat.le_refl _) hg4; have hown4 : w4.ownsRow W.heap.size 5 1 (.slice A4 bs.length c4) bs.length (u8s bs) := (by simpa using hown4'); clear hown4' hg4 hat4; have g4 := (HSS.out w4 hb4).1; have g5 := (HSS.out _ (hb4.alloc hb4.size (.cells #[.int .i64 f, .int .i64 t, .slice A4 bs.length c4] 35))).1; have i4 := (HSS.out w4 hb4).2; have i5 := (HSS.out _ (hb4.alloc hb4.size (.cells #[.int .i64 f, .int .i64 t, .slice A4 bs.length c4] 35))).2; have HO4 := Lib.hid hown4; have HB4 := Lib.hid hb4; clear hown4 hb4)
      refine HK.out _ _ (.inr ⟨g4, i4⟩) ?_
      clear HK
      try simp only [Act.put, List.setIfInBounds_toArray, List.set_cons_zero, List.set_cons_succ]
      have hS4 := And.intro g4 i4
      refine wpAnyT_take (i := 13) (v := ?v13) rfl (by kernel_rfl) (by kernel_rfl) (by kernel_rfl) (by kernel_rfl) (fun _ _ _ h => h) rfl (fun w' hS => ?y13) hS4 ?z13
      case y13 => (obtain ⟨s1, s2, s3, s4⟩ := hS; go_simp; with_reducible rfl)
      try simp only [Act.put, List.setIfInBounds_toArray, List.set_cons_zero, List.set_cons_succ]
      refine wpAnyT_one (i := 14) (by kernel_rfl) rfl (fun K' hK => ?_)
      have HK := Lib.hid hK
      clear hK
      go_simp
      refine HK.out _ _ (.inr ⟨g5, i5⟩) ?_
      clear HK
      try simp only [Act.put, List.setIfInBounds_toArray, List.set_cons_zero, List.set_cons_succ]
      refine wpAnyT_one (i := 15) (by kernel_rfl) rfl (fun K' hK => ?_)
      have HK := Lib.hid hK
      clear hK
      (refine step_append_sees rfl (.tmp 22) (.tmp 32) 22 (by rfl) 0 35 (.agg #[.int .i64 0, .int .i64 0, .slice none 0 0]) 3 40 Try.underlying22 infoRefLetter rfl (by decide) (.slice R ls.length cr) ls.length cells (by rfl) (by exact own_alloc' (own_keep HOW.out HB4.out) _) (some ⟨w4.heap.size, 0, none⟩) 1 1 [.int .i64 f, .int .i64 t, .slice A4 bs.length c4] (by rfl) (by rfl) (by exact sees_new _ _ _) (by simp [Value.oneCell']) (by simp only [maxLen]; omega) (by omega) (Nat.zero_le _) ?_; intro A6 c6 w6 hown6 hg6 hat6; have hba := HB4.out.alloc HB4.out.size (.cells #[.int .i64 f, .int .i64 t, .slice A4 bs.length c4] 35); have hza := hba.size; have z1 := (hg6.block g (Nat.lt_of_lt_of_le hgl' hza) (fun e => own_ne HOW.out HGW.out (by decide) e.symm)).trans ((hba.block g hgl').trans HGW.out); have z2 := (hg6.block w.heap.size (Nat.lt_of_lt_of_le hzW hza) (fun e => Nat.lt_irrefl _ (HRB.out _ e.symm))).trans ((hba.block w.heap.size hzW).trans HXW.out); have g6 := (ref_cells z1).2.1; have i6 := HCB.out w6 z2; have i7 := HCB.out (w6.setCell ⟨g, 1, none⟩ (.slice A6 (ls.length + 1) c6)) ((Below.heap_setCell w6 _ _ _ hgne).trans z2); have hfz6 := (ref_cells z1).2.2.2; have HO6 := Lib.hid hown6; have HG6 := Lib.hid hg6; have HA6 := Lib.hid hat6; have HZ1 := Lib.hid z1; clear hown6 hg6 hat6 z1 z2 hba hza)
      refine HK.out _ _ (.inr ⟨g6, i6⟩) ?_
      clear HK
      try simp only [Act.put, List.setIfInBounds_toArray, List.set_cons_zero, List.set_cons_succ]
      have hS6 := And.intro g6 i6
      refine wpAnyT_one (i := 16) (by kernel_rfl) rfl (fun K' hK => ?_)
      have HK := Lib.hid hK
      clear hK
      go_simp
      refine HK.out _ _ (.inr hS6) ?_
      clear HK
      try simp only [Act.put, List.setIfInBounds_toArray, List.set_cons_zero, List.set_cons_succ]
      refine wpAnyT_one (i := 17) (by kernel_rfl) rfl (fun K' hK => ?_)
      have HK := Lib.hid hK
      clear hK
      go_simp
      refine HK.out _ _ (.inr hS6) ?_
      clear HK
      try simp only [Act.put, List.setIfInBounds_toArray, List.set_cons_zero, List.set_cons_succ]
      refine wpAnyT_one (i := 18) (by kernel_rfl) rfl (fun K' hK => ?_)
      have HK := Lib.hid hK
      clear hK
      go_simp
      refine HK.out _ _ (.inl rfl) ?_
      clear HK
      try simp only [Act.put, List.setIfInBounds_toArray, List.set_cons_zero, List.set_cons_succ]
      refine wpAnyT_done (by kernel_rfl) ?_ _
      all_goals go_wp2
      all_goals go_ret
      all_goals (have hd := refsend_done HR.out HBW.out HB4.out HO4.out HO6.out HG6.out HA6.out HZ1.out)
      all_goals (refine ⟨by rw [HSE.out]; rfl, ?_, hd.2⟩; rw [HSE.out, if_pos rfl]; exact hd.1)
end
end Go.Proofs.Ytfhmdphcgcmaeaa
