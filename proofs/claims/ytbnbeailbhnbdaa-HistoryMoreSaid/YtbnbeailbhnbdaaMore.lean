/-
  HistoryMore: the walk.
-/
import Derived.Test.YtbnbeailbhnbdaaTime
import Derived.Test.YtbnbeailbhnbdaaMoreP
import Derived.Deep.RegionHeld3
set_option linter.unusedVariables false
set_option linter.unusedSimpArgs false
namespace Go.Proofs.Ytbnbeailbhnbdaa
open Go.RowKit

theorem infoCallR : (Try.prog.info? 50).map (fun i => (i.zero, i.size, i.bytes)) = some (some (.agg zeros12), 12, 128) := by kernel_rfl
/-- A call in a box. -/
def BoxC (W : World) (b : Nat) (c : CV) : Prop := W.heap[b]? = some (.cells c.cells 50 (0, 0))
section
variable {W W' : World} {b : Nat} {c : CV}
theorem BoxC.cell (h : BoxC W b c) (j : Nat) (v : Value) (hj : c.cells.toList[j]? = some v) : W.cell? ⟨b, j, none⟩ = some v := by
  rw [cell_of_row W b j _ _ _ h]
  simpa using hj
theorem BoxC.frozen (h : BoxC W b c) (j : Nat) : W.frozen? ⟨b, j, none⟩ = false := by
  unfold BoxC at h
  simp [World.frozen?, h]
theorem BoxC.lt (h : BoxC W b c) : b < W.heap.size := (Array.getElem?_eq_some_iff.1 h).1
theorem BoxC.set0 (h : BoxC W b c) (v : Int) : BoxC (W.setCell ⟨b, 0, none⟩ (.int .i64 v)) b { c with client := v } := by
  unfold BoxC at *
  simp [World.setCell, Array.getElem?_modify, h, CV.cells]
theorem BoxC.set5 (h : BoxC W b c) (v : Bool) : BoxC (W.setCell ⟨b, 5, none⟩ (.bool v)) b { c with ans := v } := by
  unfold BoxC at *
  simp [World.setCell, Array.getElem?_modify, h, CV.cells]
theorem BoxC.below (h : BoxC W b c) (hb : Below W.heap.size W W') : BoxC W' b c := (hb.block b h.lt).trans h
end
/-- The cells of a row that was handed in; one more. -/
theorem SeenC.cells {w : World} {A : Option Addr} {xs : List Full} {n : Nat} (h : SeenC w A xs) (hn : xs.length = n) : ∃ cells : List Value, Sees w A cells ∧ cells.length = n * 12 ∧ (∀ v ∈ cells, v.oneCell' = true) ∧
    ∀ (W : World) (A' : Option Addr) (y : Full), Below w.heap.size w W → CallR W y y.1.cells.toList → Sees W A' (cells ++ y.1.cells.toList) → SeenC W A' (xs ++ [y]) := by
  obtain ⟨cells, hs, hr⟩ := h
  obtain ⟨css, e1, e2, e3, e4⟩ := hr.all
  refine ⟨cells, hs, ?_, ?_, ?_⟩
  · rw [e1, flatten_len e3, e2, hn]
  · intro v hv
    rw [e1] at hv
    obtain ⟨cs, hcs, hvc⟩ := List.mem_flatten.1 hv
    obtain ⟨j, hj, rfl⟩ := List.getElem_of_mem hcs
    obtain ⟨ec, ⟨D, dc, k1, _⟩, R, rc, k2, _⟩ := e4 j _ _ (List.getElem?_eq_getElem (show j < xs.length by omega)) (List.getElem?_eq_getElem hj)
    rw [ec] at hvc
    exact oneCells _ (by rw [k1]; rfl) (by rw [k2]; rfl) v hvc
  · intro W A' y hb hy hs'
    refine ⟨_, hs', Recs.snoc ?_ rfl hy⟩
    obtain ⟨css, h2, h3, h4⟩ := hr
    exact ⟨css, h2, h3, fun j x cs hx hc => ⟨(h4 j x cs hx hc).1, (h4 j x cs hx hc).2.below hb⟩⟩
theorem step_append_seesW {P : Program} {ops : Array Oper} {o : Oper} {a : Act} {K : Act → World → Prop} {Q : Exit → Act → World → Prop} {E : Prop} {w : World} (hw : Region.wanted o (yielded ops a.tmps) = true) (s x : Operand) (t : TypeId)
    (ho : o.op = .call { callee := .builtin .append, args := #[s, x], argTypes := #[t, t] }) (base : Nat) (e : TypeId) (z : Value) (size bytes : Nat) (ht : P.underlying t = some (.slice e))
    (hinfo : (P.info? e).map (fun i => (i.zero, i.size, i.bytes)) = some (some z, size, bytes)) (hzs : z.cells.size = size) (hsz : 0 < size)
    (v : Value) (n : Nat) (xs : List Value) (hs : a.eval s = v) (hown : w.ownsRow base e size v n xs)
    (A : Option Addr) (m c : Nat) (news : List Value) (hx : a.eval x = .slice A m c) (hl : news.length = m * size) (hnews : Sees w A news) (h1 : ∀ u ∈ news, u.oneCell' = true)
    (h63 : n + m ≤ maxLen) (hbytes : (n + m) * bytes ≤ 140737488355328) (hbase : base ≤ w.heap.size)
    (h : ∀ A' c' w', w'.ownsRow base e size (.slice A' (n + m) c') (n + m) (xs ++ news) → w.grownBy w' v.ownBlock → ((Value.slice A' (n + m) c').ownBlock = v.ownBlock ∨ (Value.slice A' (n + m) c').ownBlock = some w.heap.size) →
      K (a.put o.dst (.slice A' (n + m) c')) w') :
    if Region.wanted o (yielded ops a.tmps) = true then Oper.wp P o a w K Q else E := by
  rw [if_pos hw]
  obtain ⟨A', c', w', hr, h2, h3, h4⟩ := run_append_sees (P := P) w base t o.type e z size bytes ht hinfo hzs hsz v n xs hown A m c news hl hnews h1 h63 hbytes hbase
  unfold Oper.wp execOp
  simp only [ho, resolve, invoke, builtin, Sem.run_bind, Sem.run_pure, Result.andThen_ok, List.map_toArray, List.map_cons, List.map_nil, hs, hx, hr]
  exact h A' c' w' h2 h3 h4
theorem sees_grown {W W' : World} {A : Option Addr} {vs : List Value} {row : Option Nat} (h : Sees W A vs) (hg : W.grownBy W' row) (hne : ∀ ad, A = some ad → some ad.block ≠ row) : Sees W' A vs := fun j v hj => by
  obtain ⟨ad, e, hc⟩ := h j v hj
  exact ⟨ad, e, hg.cell hc (by rw [add_blk]; exact hne ad e)⟩
abbrev TC : TypeId := 50
/-- The row with one call more. -/
theorem app_done {w wr W1 w6 : World} {A5 A6 : Option Addr} {xs : List Full} {cells : List Value} {n c5 c6 : Nat} {y : Full}
    (hcell : ∀ (W : World) (A' : Option Addr) (y : Full), Below w.heap.size w W → CallR W y y.1.cells.toList → Sees W A' (cells ++ y.1.cells.toList) → SeenC W A' (xs ++ [y]))
    (hwr : Below w.heap.size w wr) (hb : Below wr.heap.size wr W1) (own : W1.ownsRow wr.heap.size TC 12 (.slice A5 n c5) n cells)
    (hy : ∀ W, Below w.heap.size w W → CallR W y y.1.cells.toList)
    (own6 : w6.ownsRow wr.heap.size TC 12 (.slice A6 (n + 1) c6) (n + 1) (cells ++ y.1.cells.toList)) (hg : W1.grownBy w6 (Value.slice A5 n c5).ownBlock) : Below wr.heap.size wr w6 ∧ SeenC w6 A6 (xs ++ [y]) := by
  have hb6 : Below wr.heap.size wr w6 := below_grown_own hb hb.size own (Nat.le_refl _) hg
  have hw6 : Below w.heap.size w w6 := below_step hwr hwr.size hb6
  exact ⟨hb6, hcell w6 A6 y hw6 (hy w6 hw6) (sees_own' own6).2.2.2⟩
/-- The call that the law asks the reference about. -/
def plainC (M c2 c4 c5 : Int) : Full := (⟨M, c2, 0, c4, c5, false, 0, 0, 0, 0, .slice none 0 0, .slice none 0 0⟩, [], [])
theorem plainC_seen (M c2 c4 c5 : Int) (W : World) : CallR W (plainC M c2 c4 c5) (plainC M c2 c4 c5).1.cells.toList :=
  ⟨rfl, ⟨none, 0, rfl, Nat.le_refl _, Sees.nil _ _⟩, none, 0, rfl, [], Sees.nil _ _, Recs.nil⟩
set_option maxRecDepth 16384 in
set_option maxHeartbeats 16000000 in
theorem more_any (A O : Option Addr) (xs : List Full) (os : List Int) (x : Full) (n c m oc : Nat) (w : World) (h : SeenC w A xs) (hn : xs.length = n) (hn2 : n * 128 ≤ 140737488351232) (hs : Small xs) (hO : Sees w O (os.map i64v)) (hm : os.length = m) (hm2 : m ≤ 140737488355328)
    (hx : CallR w x x.1.cells.toList) (hxs : Small [x]) :
    Calls Try.prog 7 #[.slice A n c, .slice O m oc, x.1.val] w (RetBool w true) := by
  obtain ⟨cells, hs1, hs2, hs3, hs4⟩ := h.cells hn
  have HSEE : Hid (∀ W, Below w.heap.size w W → Sees W A cells) := Lib.hid (fun W hb => hs1.below hb)
  have HCLN := Lib.hid hs2
  have HONE := Lib.hid hs3
  have HROW := Lib.hid hs4
  obtain ⟨⟨c1, c2, c3, c4, c5, c6, c7, c8, c9, c10, dv, rv⟩, bs, rs⟩ := x
  obtain ⟨_, ⟨D, dc, e1, e2, e3⟩, R, rc, e4, e5⟩ := hx
  dsimp only at e1 e2 e3 e4 e5
  subst e1 e4
  obtain ⟨q, hq⟩ : ∃ q, bs.length = q := ⟨_, rfl⟩
  obtain ⟨mR, hmR⟩ : ∃ mR, rs.length = mR := ⟨_, rfl⟩
  have HCR : Hid (∀ W M, Below w.heap.size w W → CallR W (⟨M, c2, c3, c4, c5, false, c7, c8, c9, c10, .slice D q dc, .slice R mR rc⟩, bs, rs) (⟨M, c2, c3, c4, c5, false, c7, c8, c9, c10, .slice D q dc, .slice R mR rc⟩ : CV).cells.toList) := Lib.hid (by
    intro W M hb
    rw [← hq, ← hmR]
    exact ⟨rfl, ⟨D, dc, rfl, e2, e3.below hb⟩, R, rc, rfl, e5.below hb⟩)
  rw [hq, hmR]
  have HXS := Lib.hid hxs
  have hw0 : Below w.heap.size w (w.alloc (.cells #[.int .i64 c1, .int .i64 c2, .int .i64 c3, .int .i64 c4, .int .i64 c5, .bool c6, .int .i64 c7, .int .i64 c8, .int .i64 c9, .int .i64 c10, .slice D q dc, .slice R mR rc] 50)) := (Below.refl _ _).alloc (Nat.le_refl _) _
  have hbx0 : BoxC (w.alloc (.cells #[.int .i64 c1, .int .i64 c2, .int .i64 c3, .int .i64 c4, .int .i64 c5, .bool c6, .int .i64 c7, .int .i64 c8, .int .i64 c9, .int .i64 c10, .slice D q dc, .slice R mR rc] 50)) w.heap.size ⟨c1, c2, c3, c4, c5, c6, c7, c8, c9, c10, .slice D q dc, .slice R mR rc⟩ := heap_alloc_new _ _
  obtain ⟨W0, hW0⟩ : ∃ W0, (w.alloc (.cells #[.int .i64 c1, .int .i64 c2, .int .i64 c3, .int .i64 c4, .int .i64 c5, .bool c6, .int .i64 c7, .int .i64 c8, .int .i64 c9, .int .i64 c10, .slice D q dc, .slice R mR rc] 50)) = W0 := ⟨_, rfl⟩
  rw [hW0] at hw0 hbx0
  obtain ⟨bx, hbx⟩ : ∃ bx, w.heap.size = bx := ⟨_, rfl⟩
  rw [hbx] at hbx0
  have HOWN := Lib.hid (own_any A xs n c W0 (h.below hw0) hn hn2 hs)
  have H := Lib.hid h
  have HN := Lib.hid hn
  have HS := Lib.hid hs
  have HO := Lib.hid hO
  have HM := Lib.hid hm
  have HQ := Lib.hid hq
  have HMR := Lib.hid hmR
  have HW0 := Lib.hid hW0
  have HBW := Lib.hid hw0
  have HX0 := Lib.hid hbx0
  have HBX := Lib.hid hbx
  clear h hn hs hO hm hxs e2 e3 e5 hq hmR hw0 hbx0 hW0 hs1 hs2 hs3 hs4 hbx
  unfold CV.val CV.cells
  go_enter Try.func7, Try.ntmps7
  go_upto_region 1 with fail
  try rw [HW0.out]
  try rw [HBX.out]
  go_upto_region 2 with (first
    | (go_at_call 22; refine HOWN.out.mono ?_; rintro e w1 ⟨A1, c1', gc, ys, rfl, hl1, hsm, hf1, hg1, hb1⟩; rw [HN.out]; have HL1 := Lib.hid hl1; have HSM := Lib.hid hsm; have HB1 := Lib.hid hb1; rw [HN.out] at hf1; have HLG := Lib.hid (legal_any (cp := c1') (oc := oc) w1 hf1 hg1 (by omega) (HO.out.below (below_step HBW.out HBW.out.size hb1)) HM.out hm2 (same_data hsm hl1 HS.out)); clear hl1 hsm hf1 hg1 hb1)
    | (go_at_call 21; refine HLG.out.mono ?_; rintro e w2 ⟨la, le, rfl, hlg, hb2⟩; have HLI := Lib.hid hlg; have HBB := Lib.hid (below_step HB1.out HB1.out.size hb2); have HB2 := Lib.hid (below_step HBW.out HBW.out.size (below_step HB1.out HB1.out.size hb2)); clear hlg hb2)
    | fail)
  by_cases hle : le = 0
  · subst hle
    have HLW := Lib.hid HLI.out.lawful
    have hb2 := HX0.out.below HBB.out
    have k5 := hb2.cell 5 _ rfl
    have k0 := hb2.cell 0 _ rfl
    have f5 := hb2.frozen 5
    have f0 := hb2.frozen 0
    have hbs : w.heap.size ≤ bx := by have := HBX.out; omega
    have HST : Hid (∃ (i : Nat) (M : Int), Value.int .i64 0 = .int .i64 (i : Int) ∧ i ≤ n ∧ 0 ≤ M ∧ BoxC ((w2.setCell ⟨bx, 5, none⟩ (.bool false)).setCell ⟨bx, 0, none⟩ (.int .i64 0)) bx ⟨M, c2, c3, c4, c5, false, c7, c8, c9, c10, .slice D q dc, .slice R mR rc⟩ ∧ Below w.heap.size w ((w2.setCell ⟨bx, 5, none⟩ (.bool false)).setCell ⟨bx, 0, none⟩ (.int .i64 0))) :=
      Lib.hid ⟨0, 0, rfl, Nat.zero_le _, Int.le_refl _, (hb2.set5 false).set0 0, (HB2.out.setCell (p := ⟨bx, 5, none⟩) hbs _).setCell (p := ⟨bx, 0, none⟩) hbs _⟩
    clear hb2
    go_wp2_with (first
      | (go_at_call 23; refine (num_any _ _).mono ?_; rintro e w3 ⟨rfl, rfl⟩)
      | fail)
    go_loopw [9] (fun s9 wr => ∃ (i : Nat) (M : Int), s9 = .int .i64 (i : Int) ∧ i ≤ n ∧ 0 ≤ M ∧ BoxC wr bx ⟨M, c2, c3, c4, c5, false, c7, c8, c9, c10, .slice D q dc, .slice R mR rc⟩ ∧ Below w.heap.size w wr) (fun s9 _ => n - (intOf s9).toNat)
    case atStart => exact HST.out
    case round =>
      obtain ⟨i, M, rfl, hi, hM, hbm, hb⟩ := hrel
      have HBM := Lib.hid hbm
      have HB := Lib.hid hb
      clear HST k0 k5 f0 f5
      by_cases hin : i < n
      · have hii : (i : Int) < (n : Int) := by omega
        obtain ⟨y, hy⟩ : ∃ y, xs[i]? = some y := ⟨_, List.getElem?_eq_getElem (by rw [HN.out]; exact hin)⟩
        obtain ⟨ad, rfl, y0, _, _⟩ := (H.out.below hb).all hy
        obtain ⟨yc, hyc⟩ : ∃ yc, y.1.client = yc := ⟨_, rfl⟩
        rw [hyc] at y0
        have k0 := hbm.cell 0 _ rfl
        have f0 := hbm.frozen 0
        have d0 : wr.drew.cell? ⟨bx, 0, none⟩ = some (.int .i64 M) := k0
        have d1 : wr.drew.cell? (ad.add (i * 12)) = some (.int .i64 yc) := y0
        have d2 : wr.drew.frozen? ⟨bx, 0, none⟩ = false := f0
        clear hbm hb hy hyc
        go_upto_region 9 with (fail)
        by_cases g1 : M < yc
        · refine (fun H : ?G1 => ?walk1) ?rest1
          case walk1 =>
            go_region
            all_goals exact H
          case rest1 =>
            go_wp2_with fail
            go_roundw
            case rel => exact ⟨i + 1, yc, by go_num, hin, by omega, HBM.out.set0 _, (HB.out.setCell (p := ⟨bx, 0, none⟩) hbs _).drew⟩
            case measure => simp [intOf] <;> omega
        · refine (fun H : ?G2 => ?walk2) ?rest2
          case walk2 =>
            go_region
            all_goals exact H
          case rest2 =>
            go_wp2_with fail
            go_roundw
            case rel => exact ⟨i + 1, M, by go_num, hin, hM, HBM.out.set0 _, (HB.out.setCell (p := ⟨bx, 0, none⟩) hbs _).drew⟩
            case measure => simp [intOf] <;> omega
      · have hii : ¬ (i : Int) < (n : Int) := by omega
        have k0 := hbm.cell 0 _ rfl
        have hk := fun W' (hb' : Below wr.heap.size wr W') => (hbm.below hb').cell
        have HKC : Hid (∀ W', Below wr.heap.size wr W' → W'.cell? ⟨bx, 0, none⟩ = some (.int .i64 M) ∧ W'.cell? ⟨bx, 1, none⟩ = some (.int .i64 c2) ∧ W'.cell? ⟨bx, 3, none⟩ = some (.int .i64 c4) ∧ W'.cell? ⟨bx, 4, none⟩ = some (.int .i64 c5)) := Lib.hid (fun W' hb' => ⟨hk W' hb' 0 _ rfl, hk W' hb' 1 _ rfl, hk W' hb' 3 _ rfl, hk W' hb' 4 _ rfl⟩)
        clear hk hbm hb
        go_upto_region 10 with (fail)
        by_cases g1 : 1152921504606846976 ≤ M
        · refine wp_region_calm (Later wr) (by kernel_rfl) (by kernel_rfl) (Below.refl _ _).drew (fun hne => ?_)
          have j0 := fun p : InS (Later wr) => (HKC.out p.w p.h).1
          repeat (go_big_quiet_step (fail))
          refine wpQuiet_nil ?_
          rintro _ ⟨p, rfl⟩
          clear j0
          go_wp2_with (first
            | (go_at_call 10; refine (knows_any _).mono ?_; rintro e w3 ⟨rfl, hb3⟩; have HB3 := Lib.hid (below_step HB.out HB.out.size (below_step p.h p.h.size hb3)); clear hb3)
            | fail)
          go_ret
          exact ⟨rfl, HB3.out⟩
        · have e1 : IntKind.i64.wrap (M + 1) = M + 1 := IntWalk.i64_in _ (by omega)
          obtain ⟨rq, hrq⟩ : ∃ rq, rightQ (cvs (xs ++ [plainC (M + 1) c2 c4 c5])) = rq := ⟨_, rfl⟩
          have HRQ := Lib.hid hrq
          clear hrq
          go_cut [61] from 40 to 61 (fun s61 wc => s61 = .bool (!rq) ∧ Below wr.heap.size wr wc)
          case first =>
            have b0 : Below wr.heap.size wr wr.drew := (Below.refl _ _).drew
            have be : Below wr.heap.size wr (wr.alloc (.cells #[] TC)).drew := ((Below.refl _ _).alloc (Nat.le_refl _) _).drew
            have bp : Below wr.heap.size wr (wr.alloc (.cells #[.int .i64 (M + 1), .int .i64 c2, .int .i64 0, .int .i64 c4, .int .i64 c5, .bool false, .int .i64 0, .int .i64 0, .int .i64 0, .int .i64 0, .slice none 0 0, .slice none 0 0] TC)).drew := ((Below.refl _ _).alloc (Nat.le_refl _) _).drew
            have bep : Below wr.heap.size wr ((wr.alloc (.cells #[] TC)).alloc (.cells #[.int .i64 (M + 1), .int .i64 c2, .int .i64 0, .int .i64 c4, .int .i64 c5, .bool false, .int .i64 0, .int .i64 0, .int .i64 0, .int .i64 0, .slice none 0 0, .slice none 0 0] TC)).drew := (((Below.refl _ _).alloc (Nat.le_refl _) _).alloc (by simp) _).drew
            have bpe : Below wr.heap.size wr ((wr.alloc (.cells #[.int .i64 (M + 1), .int .i64 c2, .int .i64 0, .int .i64 c4, .int .i64 c5, .bool false, .int .i64 0, .int .i64 0, .int .i64 0, .int .i64 0, .slice none 0 0, .slice none 0 0] TC)).alloc (.cells #[] TC)).drew := (((Below.refl _ _).alloc (Nat.le_refl _) _).alloc (by simp) _).drew
            have HOEP : Hid (((wr.alloc (.cells #[] TC)).alloc (.cells #[.int .i64 (M + 1), .int .i64 c2, .int .i64 0, .int .i64 c4, .int .i64 c5, .bool false, .int .i64 0, .int .i64 0, .int .i64 0, .int .i64 0, .slice none 0 0, .slice none 0 0] TC)).drew.ownsRow wr.heap.size TC 12 (.slice (some ⟨wr.heap.size, 0, none⟩) 0 0) 0 []) := Lib.hid (own_keep (own_alloc' (own_made0 wr TC 12) (.cells #[.int .i64 (M + 1), .int .i64 c2, .int .i64 0, .int .i64 c4, .int .i64 c5, .bool false, .int .i64 0, .int .i64 0, .int .i64 0, .int .i64 0, .slice none 0 0, .slice none 0 0] TC)) (Below.refl _ _).drew)
            have HOPE : Hid (((wr.alloc (.cells #[.int .i64 (M + 1), .int .i64 c2, .int .i64 0, .int .i64 c4, .int .i64 c5, .bool false, .int .i64 0, .int .i64 0, .int .i64 0, .int .i64 0, .slice none 0 0, .slice none 0 0] TC)).alloc (.cells #[] TC)).drew.ownsRow wr.heap.size TC 12 (.slice (some ⟨wr.heap.size + 1, 0, none⟩) 0 0) 0 []) := Lib.hid (by
              have h9 := own_keep (own_made0 (wr.alloc (.cells #[.int .i64 (M + 1), .int .i64 c2, .int .i64 0, .int .i64 c4, .int .i64 c5, .bool false, .int .i64 0, .int .i64 0, .int .i64 0, .int .i64 0, .slice none 0 0, .slice none 0 0] TC)) TC 12) (Below.refl _ _).drew
              rw [World.size_alloc] at h9
              exact own_lower h9 (by omega))
            have HSEP : Hid (Sees ((wr.alloc (.cells #[] TC)).alloc (.cells #[.int .i64 (M + 1), .int .i64 c2, .int .i64 0, .int .i64 c4, .int .i64 c5, .bool false, .int .i64 0, .int .i64 0, .int .i64 0, .int .i64 0, .slice none 0 0, .slice none 0 0] TC)).drew (some ⟨wr.heap.size + 1, 0, none⟩) [.int .i64 (M + 1), .int .i64 c2, .int .i64 0, .int .i64 c4, .int .i64 c5, .bool false, .int .i64 0, .int .i64 0, .int .i64 0, .int .i64 0, .slice none 0 0, .slice none 0 0]) := Lib.hid (by
              have h9 := (sees_new (wr.alloc (.cells #[] TC)) #[.int .i64 (M + 1), .int .i64 c2, .int .i64 0, .int .i64 c4, .int .i64 c5, .bool false, .int .i64 0, .int .i64 0, .int .i64 0, .int .i64 0, .slice none 0 0, .slice none 0 0] TC).below (Below.refl _ _).drew
              rw [World.size_alloc] at h9
              exact h9)
            have HSPE : Hid (Sees ((wr.alloc (.cells #[.int .i64 (M + 1), .int .i64 c2, .int .i64 0, .int .i64 c4, .int .i64 c5, .bool false, .int .i64 0, .int .i64 0, .int .i64 0, .int .i64 0, .slice none 0 0, .slice none 0 0] TC)).alloc (.cells #[] TC)).drew (some ⟨wr.heap.size, 0, none⟩) [.int .i64 (M + 1), .int .i64 c2, .int .i64 0, .int .i64 c4, .int .i64 c5, .bool false, .int .i64 0, .int .i64 0, .int .i64 0, .int .i64 0, .slice none 0 0, .slice none 0 0]) := Lib.hid (((sees_new wr #[.int .i64 (M + 1), .int .i64 c2, .int .i64 0, .int .i64 c4, .int .i64 c5, .bool false, .int .i64 0, .int .i64 0, .int .i64 0, .int .i64 0, .slice none 0 0, .slice none 0 0] TC).below ((Below.refl _ _).alloc (Nat.le_refl _) (.cells #[] TC))).below (Below.refl _ _).drew)
            go_region_held3 (fun W' => W'.cell? ⟨bx, 0, none⟩ = some (.int .i64 M) ∧ W'.cell? ⟨bx, 1, none⟩ = some (.int .i64 c2) ∧ W'.cell? ⟨bx, 3, none⟩ = some (.int .i64 c4) ∧ W'.cell? ⟨bx, 4, none⟩ = some (.int .i64 c5))
              (first
                | (refine HKC.out _ ?_; assumption)
                | fail)
              (first
                | (refine step_append_seesW (by kernel_rfl) (.tmp 44) (.tmp 45) 40 (by rfl) wr.heap.size TC (.agg zeros12) 12 128 Try.underlying40 infoCallR rfl (by decide) (.slice (some ⟨wr.heap.size, 0, none⟩) 0 0) 0 [] (by rfl) (by exact own_made0 wr _ 12) A n c cells (by rfl) (by exact HCLN.out) (by exact HSEE.out _ (below_step HB.out HB.out.size be)) (by exact HONE.out) (by simp only [maxLen]; omega) (by omega) (by first | (simp; done) | (simp; omega)) ?_; intro A5 c5' w5 hown5 hg5 hat5; have b5 : Below wr.heap.size wr w5 := below_grown_own be (by first | (simp; done) | (simp; omega)) (own_made0 wr _ 12) (Nat.le_refl _) hg5; have e0 : 0 + n = n := Nat.zero_add _; rw [e0]; have HO5 := Lib.hid hown5; rw [e0, List.nil_append] at HO5; have O1 := Lib.hid hat5; have bP := b5.alloc b5.size (.cells #[.int .i64 (M + 1), .int .i64 c2, .int .i64 0, .int .i64 c4, .int .i64 c5, .bool false, .int .i64 0, .int .i64 0, .int .i64 0, .int .i64 0, .slice none 0 0, .slice none 0 0] TC); clear hown5 hg5 hat5 e0)
                | (have hx := O1; refine step_append_seesW (by kernel_rfl) (.tmp 46) (.tmp 57) 40 (by rfl) wr.heap.size TC (.agg zeros12) 12 128 Try.underlying40 infoCallR rfl (by decide) (.slice A5 n c5') n cells (by rfl) (by exact own_alloc' HO5.out _) (some ⟨w5.heap.size, 0, none⟩) 1 1 [.int .i64 (M + 1), .int .i64 c2, .int .i64 0, .int .i64 c4, .int .i64 c5, .bool false, .int .i64 0, .int .i64 0, .int .i64 0, .int .i64 0, .slice none 0 0, .slice none 0 0] (by rfl) (by rfl) (by exact sees_new _ _ _) (by simp [Value.oneCell']) (by simp only [maxLen]; omega) (by omega) (by have := bP.size; omega) ?_; intro A6 c6' w6 hown6 hg6 hat6; obtain ⟨b6, hsc6⟩ := app_done (y := plainC (M + 1) c2 c4 c5) HROW.out HB.out bP (own_alloc' HO5.out _) (fun W _ => plainC_seen _ _ _ _ W) hown6 hg6; have HRR6 := Lib.hid (refright_any A6 (xs ++ [plainC (M + 1) c2 c4 c5]) (n + 1) c6' w6 hsc6 (by rw [List.length_append, HN.out]; rfl) (by omega)); clear hown6 hg6 hat6 hsc6)
                | (refine step_append_seesW (by kernel_rfl) (.tmp 44) (.tmp 45) 40 (by rfl) wr.heap.size TC (.agg zeros12) 12 128 Try.underlying40 infoCallR rfl (by decide) (.slice (some ⟨wr.heap.size, 0, none⟩) 0 0) 0 [] (by rfl) (by exact HOEP.out) A n c cells (by rfl) (by exact HCLN.out) (by exact HSEE.out _ (below_step HB.out HB.out.size bep)) (by exact HONE.out) (by simp only [maxLen]; omega) (by omega) (by first | (simp; done) | (simp; omega)) ?_; intro A5 c5' w5 hown5 hg5 hat5; have b5 : Below wr.heap.size wr w5 := below_grown_own bep (by first | (simp; done) | (simp; omega)) (HOEP.out) (Nat.le_refl _) hg5; have e0 : 0 + n = n := Nat.zero_add _; rw [e0]; have HO5 := Lib.hid hown5; rw [e0, List.nil_append] at HO5; have O2 := Lib.hid (sees_grown (A := some ⟨wr.heap.size + 1, 0, none⟩) HSEP.out hg5 (fun ad e h => by cases e; have := Option.some.inj h; simp at this)); clear hown5 hg5 hat5 e0)
                | (refine step_append_seesW (by kernel_rfl) (.tmp 44) (.tmp 45) 40 (by rfl) wr.heap.size TC (.agg zeros12) 12 128 Try.underlying40 infoCallR rfl (by decide) (.slice (some ⟨wr.heap.size + 1, 0, none⟩) 0 0) 0 [] (by rfl) (by exact HOPE.out) A n c cells (by rfl) (by exact HCLN.out) (by exact HSEE.out _ (below_step HB.out HB.out.size bpe)) (by exact HONE.out) (by simp only [maxLen]; omega) (by omega) (by first | (simp; done) | (simp; omega)) ?_; intro A5 c5' w5 hown5 hg5 hat5; have b5 : Below wr.heap.size wr w5 := below_grown_own bpe (by first | (simp; done) | (simp; omega)) (HOPE.out) (Nat.le_refl _) hg5; have e0 : 0 + n = n := Nat.zero_add _; rw [e0]; have HO5 := Lib.hid hown5; rw [e0, List.nil_append] at HO5; have O3 := Lib.hid (sees_grown (A := some ⟨wr.heap.size, 0, none⟩) HSPE.out hg5 (fun ad e h => by cases e; have := Option.some.inj h; simp at this)); clear hown5 hg5 hat5 e0)
                | (have hx := O2; refine step_append_seesW (by kernel_rfl) (.tmp 46) (.tmp 57) 40 (by rfl) wr.heap.size TC (.agg zeros12) 12 128 Try.underlying40 infoCallR rfl (by decide) (.slice A5 n c5') n cells (by rfl) (by exact HO5.out) (some ⟨wr.heap.size + 1, 0, none⟩) 1 1 [.int .i64 (M + 1), .int .i64 c2, .int .i64 0, .int .i64 c4, .int .i64 c5, .bool false, .int .i64 0, .int .i64 0, .int .i64 0, .int .i64 0, .slice none 0 0, .slice none 0 0] (by rfl) (by rfl) (by exact O2.out) (by simp [Value.oneCell']) (by simp only [maxLen]; omega) (by omega) (by have := b5.size; omega) ?_; intro A6 c6' w6 hown6 hg6 hat6; obtain ⟨b6, hsc6⟩ := app_done (y := plainC (M + 1) c2 c4 c5) HROW.out HB.out b5 HO5.out (fun W _ => plainC_seen _ _ _ _ W) hown6 hg6; have HRR6 := Lib.hid (refright_any A6 (xs ++ [plainC (M + 1) c2 c4 c5]) (n + 1) c6' w6 hsc6 (by rw [List.length_append, HN.out]; rfl) (by omega)); clear hown6 hg6 hat6 hsc6)
                | (have hx := O3; refine step_append_seesW (by kernel_rfl) (.tmp 46) (.tmp 57) 40 (by rfl) wr.heap.size TC (.agg zeros12) 12 128 Try.underlying40 infoCallR rfl (by decide) (.slice A5 n c5') n cells (by rfl) (by exact HO5.out) (some ⟨wr.heap.size, 0, none⟩) 1 1 [.int .i64 (M + 1), .int .i64 c2, .int .i64 0, .int .i64 c4, .int .i64 c5, .bool false, .int .i64 0, .int .i64 0, .int .i64 0, .int .i64 0, .slice none 0 0, .slice none 0 0] (by rfl) (by rfl) (by exact O3.out) (by simp [Value.oneCell']) (by simp only [maxLen]; omega) (by omega) (by have := b5.size; omega) ?_; intro A6 c6' w6 hown6 hg6 hat6; obtain ⟨b6, hsc6⟩ := app_done (y := plainC (M + 1) c2 c4 c5) HROW.out HB.out b5 HO5.out (fun W _ => plainC_seen _ _ _ _ W) hown6 hg6; have HRR6 := Lib.hid (refright_any A6 (xs ++ [plainC (M + 1) c2 c4 c5]) (n + 1) c6' w6 hsc6 (by rw [List.length_append, HN.out]; rfl) (by omega)); clear hown6 hg6 hat6 hsc6)
                | (go_simp; go_at_call 24; refine HRR6.out.mono ?_; rintro e w9 ⟨rfl, hb9⟩; rw [HRQ.out]; have b9 : Below wr.heap.size wr w9 := below_step b6 b6.size hb9; clear hb9)
                | fail)
            all_goals (go_wp2_with fail; go_meet)
            all_goals exact ⟨rfl, b9⟩
          case rest =>
            obtain ⟨rfl, hbc⟩ := hcut
            have HBC := Lib.hid (below_step HB.out HB.out.size hbc)
            have hbm := HBM.out.below hbc
            clear hbc
            cases rq with
            | false =>
              go_wp2_with (first
                | (go_at_call 10; refine (knows_any _).mono ?_; rintro e w3 ⟨rfl, hb3⟩; have HB3 := Lib.hid (below_step HBC.out HBC.out.size hb3); clear hb3)
                | fail)
              go_ret
              exact ⟨rfl, HB3.out⟩
            | true =>
              have j0 := hbm.cell 0 _ rfl
              have jf := hbm.frozen 0
              have hbv := hbm.set0 (M + 1)
              have hvv : Below w.heap.size w (wc.setCell ⟨bx, 0, none⟩ (.int .i64 (M + 1))) := HBC.out.setCell (p := ⟨bx, 0, none⟩) hbs _
              have HN2 : Hid ((xs ++ [plainC (M + 1) c2 c4 c5]).length ≤ 2000) := Lib.hid (by
                have h9 := HRQ.out
                unfold rightQ at h9
                rw [Bool.and_eq_true, decide_eq_true_eq, cvs_length] at h9
                exact h9.1)
              have hn2000 : n + 1 ≤ 2000 := by
                have h9 := HN2.out
                rw [List.length_append, HN.out] at h9
                exact h9
              have HSM2 : Hid (Small (xs ++ [((⟨M + 1, c2, c3, c4, c5, false, c7, c8, c9, c10, .slice D q dc, .slice R mR rc⟩, bs, rs) : Full)])) := Lib.hid (by
                intro y hy
                rcases List.mem_append.1 hy with hy | hy
                · exact HS.out y hy
                · rw [List.mem_singleton.1 hy]
                  have h9 := HXS.out _ List.mem_cons_self
                  exact h9)
              have HLAW : Hid (∀ ys7 : List Full, ys7.length = (xs ++ [((⟨M + 1, c2, c3, c4, c5, false, c7, c8, c9, c10, .slice D q dc, .slice R mR rc⟩, bs, rs) : Full)]).length → (∀ (j : Nat) (x y : Full), (xs ++ [((⟨M + 1, c2, c3, c4, c5, false, c7, c8, c9, c10, .slice D q dc, .slice R mR rc⟩, bs, rs) : Full)])[j]? = some x → ys7[j]? = some y → SameF x y) → Lawful ys7 os) := Lib.hid (by
                intro ys7 hl7 hsm7
                have hnn : (xs ++ [((⟨M + 1, c2, c3, c4, c5, false, c7, c8, c9, c10, .slice D q dc, .slice R mR rc⟩, bs, rs) : Full)]).length = n + 1 := by rw [List.length_append, HN.out]; rfl
                rw [hnn] at hl7
                have hF : ∀ k : Nat, k < n → SameF (atF xs (k : Int)) (atF ys7 (k : Int)) := by
                  intro k hk
                  refine hsm7 k _ _ ?_ (atF_get (by omega))
                  rw [List.getElem?_append_left (by rw [HN.out]; exact hk)]
                  exact atF_get (by rw [HN.out]; exact hk)
                have hL : SameF ((⟨M + 1, c2, c3, c4, c5, false, c7, c8, c9, c10, .slice D q dc, .slice R mR rc⟩, bs, rs) : Full) (atF ys7 (n : Int)) := by
                  refine hsm7 n _ _ ?_ (atF_get (by omega))
                  rw [List.getElem?_append_right (by rw [HN.out]; exact Nat.le_refl _), HN.out, Nat.sub_self]
                  rfl
                refine HLW.out.move (fun k hk => ?_) ?_ ?_ ?_
                · have hk' : k < n := by rw [HL1.out, HN.out] at hk; exact hk
                  exact (SameF.at HSM.out HL1.out (by rw [HN.out]; exact hk')).symm.trans (hF k hk')
                · have h9 := HRQ.out
                  rw [← right_eq] at h9
                  refine right_move ?_ (fun k hk => ?_) h9
                  · rw [cvs_length, cvs_length, hl7, List.length_append, HN.out]
                    rfl
                  · rw [cvs_length, List.length_append, HN.out] at hk
                    have hk2 : k < n + 1 := hk
                    rw [← atF_fst, ← atF_fst]
                    rcases Nat.lt_or_ge k n with h8 | h8
                    · have h7 : atF (xs ++ [plainC (M + 1) c2 c4 c5]) (k : Int) = atF xs (k : Int) := by
                        unfold atF
                        rw [Int.toNat_natCast, List.getD_eq_getElem?_getD, List.getD_eq_getElem?_getD, List.getElem?_append_left (by rw [HN.out]; exact h8)]
                      rw [h7]
                      exact (hF k h8).like
                    · obtain rfl : k = n := by omega
                      have h7 : atF (xs ++ [plainC (M + 1) c2 c4 c5]) (k : Int) = plainC (M + 1) c2 c4 c5 := by
                        unfold atF
                        rw [Int.toNat_natCast, List.getD_eq_getElem?_getD, List.getElem?_append_right (by rw [HN.out]; exact Nat.le_refl _), HN.out, Nat.sub_self]
                        rfl
                      rw [h7, hL.2]
                      exact ⟨rfl, rfl, rfl, (fun h => by cases h), rfl⟩
                · rw [HL1.out, HN.out, hl7]
                  omega
                · intro k hk1 hk2
                  rw [HL1.out, HN.out] at hk1
                  obtain rfl : k = n := by omega
                  rw [hL.2])
              clear hbm
              go_upto_region 13 with (fail)
              obtain ⟨wv, hwv⟩ : ∃ wv, wc.setCell ⟨bx, 0, none⟩ (.int .i64 (M + 1)) = wv := ⟨_, rfl⟩
              rw [hwv] at hbv hvv ⊢
              clear hwv j0 jf
              have HV := Lib.hid hvv
              have hk := fun W' (hb' : Below wv.heap.size wv W') => (hbv.below hb').cell
              have HKC2 : Hid (∀ W', Below wv.heap.size wv W' → W'.cell? ⟨bx, 0, none⟩ = some (.int .i64 (M + 1)) ∧ W'.cell? ⟨bx, 1, none⟩ = some (.int .i64 c2) ∧ W'.cell? ⟨bx, 2, none⟩ = some (.int .i64 c3) ∧ W'.cell? ⟨bx, 3, none⟩ = some (.int .i64 c4) ∧ W'.cell? ⟨bx, 4, none⟩ = some (.int .i64 c5) ∧ W'.cell? ⟨bx, 5, none⟩ = some (.bool false) ∧ W'.cell? ⟨bx, 6, none⟩ = some (.int .i64 c7) ∧ W'.cell? ⟨bx, 7, none⟩ = some (.int .i64 c8) ∧ W'.cell? ⟨bx, 8, none⟩ = some (.int .i64 c9) ∧ W'.cell? ⟨bx, 9, none⟩ = some (.int .i64 c10) ∧ W'.cell? ⟨bx, 10, none⟩ = some (.slice D q dc) ∧ W'.cell? ⟨bx, 11, none⟩ = some (.slice R mR rc)) := Lib.hid (fun W' hb' => ⟨hk W' hb' 0 _ rfl, hk W' hb' 1 _ rfl, hk W' hb' 2 _ rfl, hk W' hb' 3 _ rfl, hk W' hb' 4 _ rfl, hk W' hb' 5 _ rfl, hk W' hb' 6 _ rfl, hk W' hb' 7 _ rfl, hk W' hb' 8 _ rfl, hk W' hb' 9 _ rfl, hk W' hb' 10 _ rfl, hk W' hb' 11 _ rfl⟩)
              clear hk hbv hvv
              have b0 : Below wv.heap.size wv wv.drew := (Below.refl _ _).drew
              have be : Below wv.heap.size wv (wv.alloc (.cells #[] TC)).drew := ((Below.refl _ _).alloc (Nat.le_refl _) _).drew
              have bp : Below wv.heap.size wv (wv.alloc (.cells #[.int .i64 (M + 1), .int .i64 c2, .int .i64 c3, .int .i64 c4, .int .i64 c5, .bool false, .int .i64 c7, .int .i64 c8, .int .i64 c9, .int .i64 c10, .slice D q dc, .slice R mR rc] TC)).drew := ((Below.refl _ _).alloc (Nat.le_refl _) _).drew
              have bep : Below wv.heap.size wv ((wv.alloc (.cells #[] TC)).alloc (.cells #[.int .i64 (M + 1), .int .i64 c2, .int .i64 c3, .int .i64 c4, .int .i64 c5, .bool false, .int .i64 c7, .int .i64 c8, .int .i64 c9, .int .i64 c10, .slice D q dc, .slice R mR rc] TC)).drew := (((Below.refl _ _).alloc (Nat.le_refl _) _).alloc (by simp) _).drew
              have bpe : Below wv.heap.size wv ((wv.alloc (.cells #[.int .i64 (M + 1), .int .i64 c2, .int .i64 c3, .int .i64 c4, .int .i64 c5, .bool false, .int .i64 c7, .int .i64 c8, .int .i64 c9, .int .i64 c10, .slice D q dc, .slice R mR rc] TC)).alloc (.cells #[] TC)).drew := (((Below.refl _ _).alloc (Nat.le_refl _) _).alloc (by simp) _).drew
              have HOEP : Hid (((wv.alloc (.cells #[] TC)).alloc (.cells #[.int .i64 (M + 1), .int .i64 c2, .int .i64 c3, .int .i64 c4, .int .i64 c5, .bool false, .int .i64 c7, .int .i64 c8, .int .i64 c9, .int .i64 c10, .slice D q dc, .slice R mR rc] TC)).drew.ownsRow wv.heap.size TC 12 (.slice (some ⟨wv.heap.size, 0, none⟩) 0 0) 0 []) := Lib.hid (own_keep (own_alloc' (own_made0 wv TC 12) (.cells #[.int .i64 (M + 1), .int .i64 c2, .int .i64 c3, .int .i64 c4, .int .i64 c5, .bool false, .int .i64 c7, .int .i64 c8, .int .i64 c9, .int .i64 c10, .slice D q dc, .slice R mR rc] TC)) (Below.refl _ _).drew)
              have HOPE : Hid (((wv.alloc (.cells #[.int .i64 (M + 1), .int .i64 c2, .int .i64 c3, .int .i64 c4, .int .i64 c5, .bool false, .int .i64 c7, .int .i64 c8, .int .i64 c9, .int .i64 c10, .slice D q dc, .slice R mR rc] TC)).alloc (.cells #[] TC)).drew.ownsRow wv.heap.size TC 12 (.slice (some ⟨wv.heap.size + 1, 0, none⟩) 0 0) 0 []) := Lib.hid (by
                have h9 := own_keep (own_made0 (wv.alloc (.cells #[.int .i64 (M + 1), .int .i64 c2, .int .i64 c3, .int .i64 c4, .int .i64 c5, .bool false, .int .i64 c7, .int .i64 c8, .int .i64 c9, .int .i64 c10, .slice D q dc, .slice R mR rc] TC)) TC 12) (Below.refl _ _).drew
                rw [World.size_alloc] at h9
                exact own_lower h9 (by omega))
              have HSEP : Hid (Sees ((wv.alloc (.cells #[] TC)).alloc (.cells #[.int .i64 (M + 1), .int .i64 c2, .int .i64 c3, .int .i64 c4, .int .i64 c5, .bool false, .int .i64 c7, .int .i64 c8, .int .i64 c9, .int .i64 c10, .slice D q dc, .slice R mR rc] TC)).drew (some ⟨wv.heap.size + 1, 0, none⟩) [.int .i64 (M + 1), .int .i64 c2, .int .i64 c3, .int .i64 c4, .int .i64 c5, .bool false, .int .i64 c7, .int .i64 c8, .int .i64 c9, .int .i64 c10, .slice D q dc, .slice R mR rc]) := Lib.hid (by
                have h9 := (sees_new (wv.alloc (.cells #[] TC)) #[.int .i64 (M + 1), .int .i64 c2, .int .i64 c3, .int .i64 c4, .int .i64 c5, .bool false, .int .i64 c7, .int .i64 c8, .int .i64 c9, .int .i64 c10, .slice D q dc, .slice R mR rc] TC).below (Below.refl _ _).drew
                rw [World.size_alloc] at h9
                exact h9)
              have HSPE : Hid (Sees ((wv.alloc (.cells #[.int .i64 (M + 1), .int .i64 c2, .int .i64 c3, .int .i64 c4, .int .i64 c5, .bool false, .int .i64 c7, .int .i64 c8, .int .i64 c9, .int .i64 c10, .slice D q dc, .slice R mR rc] TC)).alloc (.cells #[] TC)).drew (some ⟨wv.heap.size, 0, none⟩) [.int .i64 (M + 1), .int .i64 c2, .int .i64 c3, .int .i64 c4, .int .i64 c5, .bool false, .int .i64 c7, .int .i64 c8, .int .i64 c9, .int .i64 c10, .slice D q dc, .slice R mR rc]) := Lib.hid (((sees_new wv #[.int .i64 (M + 1), .int .i64 c2, .int .i64 c3, .int .i64 c4, .int .i64 c5, .bool false, .int .i64 c7, .int .i64 c8, .int .i64 c9, .int .i64 c10, .slice D q dc, .slice R mR rc] TC).below ((Below.refl _ _).alloc (Nat.le_refl _) (.cells #[] TC))).below (Below.refl _ _).drew)
              go_region_held3 (fun W' => W'.cell? ⟨bx, 0, none⟩ = some (.int .i64 (M + 1)) ∧ W'.cell? ⟨bx, 1, none⟩ = some (.int .i64 c2) ∧ W'.cell? ⟨bx, 2, none⟩ = some (.int .i64 c3) ∧ W'.cell? ⟨bx, 3, none⟩ = some (.int .i64 c4) ∧ W'.cell? ⟨bx, 4, none⟩ = some (.int .i64 c5) ∧ W'.cell? ⟨bx, 5, none⟩ = some (.bool false) ∧ W'.cell? ⟨bx, 6, none⟩ = some (.int .i64 c7) ∧ W'.cell? ⟨bx, 7, none⟩ = some (.int .i64 c8) ∧ W'.cell? ⟨bx, 8, none⟩ = some (.int .i64 c9) ∧ W'.cell? ⟨bx, 9, none⟩ = some (.int .i64 c10) ∧ W'.cell? ⟨bx, 10, none⟩ = some (.slice D q dc) ∧ W'.cell? ⟨bx, 11, none⟩ = some (.slice R mR rc))
                (first
                  | (refine HKC2.out _ ?_; assumption)
                  | fail)
                (first
                  | (refine step_append_seesW (by kernel_rfl) (.tmp 68) (.tmp 69) 40 (by rfl) wv.heap.size TC (.agg zeros12) 12 128 Try.underlying40 infoCallR rfl (by decide) (.slice (some ⟨wv.heap.size, 0, none⟩) 0 0) 0 [] (by rfl) (by exact own_made0 wv _ 12) A n c cells (by rfl) (by exact HCLN.out) (by exact HSEE.out _ (below_step HV.out HV.out.size be)) (by exact HONE.out) (by simp only [maxLen]; omega) (by omega) (by first | (simp; done) | (simp; omega)) ?_; intro A5 c5' w5 hown5 hg5 hat5; have b5 : Below wv.heap.size wv w5 := below_grown_own be (by first | (simp; done) | (simp; omega)) (own_made0 wv _ 12) (Nat.le_refl _) hg5; have e0 : 0 + n = n := Nat.zero_add _; rw [e0]; have HO5 := Lib.hid hown5; rw [e0, List.nil_append] at HO5; have O1 := Lib.hid hat5; have bP := b5.alloc b5.size (.cells #[.int .i64 (M + 1), .int .i64 c2, .int .i64 c3, .int .i64 c4, .int .i64 c5, .bool false, .int .i64 c7, .int .i64 c8, .int .i64 c9, .int .i64 c10, .slice D q dc, .slice R mR rc] TC); clear hown5 hg5 hat5 e0)
                  | (have hx := O1; refine step_append_seesW (by kernel_rfl) (.tmp 70) (.tmp 72) 40 (by rfl) wv.heap.size TC (.agg zeros12) 12 128 Try.underlying40 infoCallR rfl (by decide) (.slice A5 n c5') n cells (by rfl) (by exact own_alloc' HO5.out _) (some ⟨w5.heap.size, 0, none⟩) 1 1 [.int .i64 (M + 1), .int .i64 c2, .int .i64 c3, .int .i64 c4, .int .i64 c5, .bool false, .int .i64 c7, .int .i64 c8, .int .i64 c9, .int .i64 c10, .slice D q dc, .slice R mR rc] (by rfl) (by rfl) (by exact sees_new _ _ _) (by simp [Value.oneCell']) (by simp only [maxLen]; omega) (by omega) (by have := bP.size; omega) ?_; intro A6 c6' w6 hown6 hg6 hat6; obtain ⟨b6, hsc6⟩ := app_done (y := ((⟨M + 1, c2, c3, c4, c5, false, c7, c8, c9, c10, .slice D q dc, .slice R mR rc⟩, bs, rs) : Full)) HROW.out HV.out bP (own_alloc' HO5.out _) (fun W hb => HCR.out W (M + 1) hb) hown6 hg6; have HOW6 := Lib.hid (own_any A6 (xs ++ [((⟨M + 1, c2, c3, c4, c5, false, c7, c8, c9, c10, .slice D q dc, .slice R mR rc⟩, bs, rs) : Full)]) (n + 1) c6' w6 hsc6 (by rw [List.length_append, HN.out]; rfl) (by omega) HSM2.out); have hw6' := Lib.hid (below_step HV.out HV.out.size b6); clear hown6 hg6 hat6 hsc6)
                  | (refine step_append_seesW (by kernel_rfl) (.tmp 68) (.tmp 69) 40 (by rfl) wv.heap.size TC (.agg zeros12) 12 128 Try.underlying40 infoCallR rfl (by decide) (.slice (some ⟨wv.heap.size, 0, none⟩) 0 0) 0 [] (by rfl) (by exact HOEP.out) A n c cells (by rfl) (by exact HCLN.out) (by exact HSEE.out _ (below_step HV.out HV.out.size bep)) (by exact HONE.out) (by simp only [maxLen]; omega) (by omega) (by first | (simp; done) | (simp; omega)) ?_; intro A5 c5' w5 hown5 hg5 hat5; have b5 : Below wv.heap.size wv w5 := below_grown_own bep (by first | (simp; done) | (simp; omega)) (HOEP.out) (Nat.le_refl _) hg5; have e0 : 0 + n = n := Nat.zero_add _; rw [e0]; have HO5 := Lib.hid hown5; rw [e0, List.nil_append] at HO5; have O2 := Lib.hid (sees_grown (A := some ⟨wv.heap.size + 1, 0, none⟩) HSEP.out hg5 (fun ad e h => by cases e; have := Option.some.inj h; simp at this)); clear hown5 hg5 hat5 e0)
                  | (refine step_append_seesW (by kernel_rfl) (.tmp 68) (.tmp 69) 40 (by rfl) wv.heap.size TC (.agg zeros12) 12 128 Try.underlying40 infoCallR rfl (by decide) (.slice (some ⟨wv.heap.size + 1, 0, none⟩) 0 0) 0 [] (by rfl) (by exact HOPE.out) A n c cells (by rfl) (by exact HCLN.out) (by exact HSEE.out _ (below_step HV.out HV.out.size bpe)) (by exact HONE.out) (by simp only [maxLen]; omega) (by omega) (by first | (simp; done) | (simp; omega)) ?_; intro A5 c5' w5 hown5 hg5 hat5; have b5 : Below wv.heap.size wv w5 := below_grown_own bpe (by first | (simp; done) | (simp; omega)) (HOPE.out) (Nat.le_refl _) hg5; have e0 : 0 + n = n := Nat.zero_add _; rw [e0]; have HO5 := Lib.hid hown5; rw [e0, List.nil_append] at HO5; have O3 := Lib.hid (sees_grown (A := some ⟨wv.heap.size, 0, none⟩) HSPE.out hg5 (fun ad e h => by cases e; have := Option.some.inj h; simp at this)); clear hown5 hg5 hat5 e0)
                  | (have hx := O2; refine step_append_seesW (by kernel_rfl) (.tmp 70) (.tmp 72) 40 (by rfl) wv.heap.size TC (.agg zeros12) 12 128 Try.underlying40 infoCallR rfl (by decide) (.slice A5 n c5') n cells (by rfl) (by exact HO5.out) (some ⟨wv.heap.size + 1, 0, none⟩) 1 1 [.int .i64 (M + 1), .int .i64 c2, .int .i64 c3, .int .i64 c4, .int .i64 c5, .bool false, .int .i64 c7, .int .i64 c8, .int .i64 c9, .int .i64 c10, .slice D q dc, .slice R mR rc] (by rfl) (by rfl) (by exact O2.out) (by simp [Value.oneCell']) (by simp only [maxLen]; omega) (by omega) (by have := b5.size; omega) ?_; intro A6 c6' w6 hown6 hg6 hat6; obtain ⟨b6, hsc6⟩ := app_done (y := ((⟨M + 1, c2, c3, c4, c5, false, c7, c8, c9, c10, .slice D q dc, .slice R mR rc⟩, bs, rs) : Full)) HROW.out HV.out b5 HO5.out (fun W hb => HCR.out W (M + 1) hb) hown6 hg6; have HOW6 := Lib.hid (own_any A6 (xs ++ [((⟨M + 1, c2, c3, c4, c5, false, c7, c8, c9, c10, .slice D q dc, .slice R mR rc⟩, bs, rs) : Full)]) (n + 1) c6' w6 hsc6 (by rw [List.length_append, HN.out]; rfl) (by omega) HSM2.out); have hw6' := Lib.hid (below_step HV.out HV.out.size b6); clear hown6 hg6 hat6 hsc6)
                  | (have hx := O3; refine step_append_seesW (by kernel_rfl) (.tmp 70) (.tmp 72) 40 (by rfl) wv.heap.size TC (.agg zeros12) 12 128 Try.underlying40 infoCallR rfl (by decide) (.slice A5 n c5') n cells (by rfl) (by exact HO5.out) (some ⟨wv.heap.size, 0, none⟩) 1 1 [.int .i64 (M + 1), .int .i64 c2, .int .i64 c3, .int .i64 c4, .int .i64 c5, .bool false, .int .i64 c7, .int .i64 c8, .int .i64 c9, .int .i64 c10, .slice D q dc, .slice R mR rc] (by rfl) (by rfl) (by exact O3.out) (by simp [Value.oneCell']) (by simp only [maxLen]; omega) (by omega) (by have := b5.size; omega) ?_; intro A6 c6' w6 hown6 hg6 hat6; obtain ⟨b6, hsc6⟩ := app_done (y := ((⟨M + 1, c2, c3, c4, c5, false, c7, c8, c9, c10, .slice D q dc, .slice R mR rc⟩, bs, rs) : Full)) HROW.out HV.out b5 HO5.out (fun W hb => HCR.out W (M + 1) hb) hown6 hg6; have HOW6 := Lib.hid (own_any A6 (xs ++ [((⟨M + 1, c2, c3, c4, c5, false, c7, c8, c9, c10, .slice D q dc, .slice R mR rc⟩, bs, rs) : Full)]) (n + 1) c6' w6 hsc6 (by rw [List.length_append, HN.out]; rfl) (by omega) HSM2.out); have hw6' := Lib.hid (below_step HV.out HV.out.size b6); clear hown6 hg6 hat6 hsc6)
                  | (have hx := HLG7; go_simp; go_at_call 21; refine HLG7.out.mono ?_; rintro e w8 ⟨la8, le8, rfl, hlg8, hb8⟩; obtain ⟨rfl, rfl⟩ := hlg8.one HLW7.out.legal; have b8 : Below wv.heap.size wv w8 := below_step b7 b7.size hb8; clear hb8 hlg8)
                  | (have hx := HOW6; go_simp; go_at_call 22; refine HOW6.out.mono ?_; rintro e w7 ⟨A7, c7', gc7, ys7, rfl, hl7, hsm7, hf7, hg7, hb7⟩; have b7 : Below wv.heap.size wv w7 := below_step b6 b6.size hb7; have hn7 : (xs ++ [((⟨M + 1, c2, c3, c4, c5, false, c7, c8, c9, c10, .slice D q dc, .slice R mR rc⟩, bs, rs) : Full)]).length = n + 1 := (by rw [List.length_append, HN.out]; rfl); rw [hn7]; rw [hn7] at hf7; have HLG7 := Lib.hid (legal_any (cp := c7') (oc := oc) w7 hf7 hg7 (by omega) (HO.out.below (below_step HV.out HV.out.size b7)) HM.out hm2 (same_data hsm7 hl7 HSM2.out)); have HLW7 := Lib.hid (HLAW.out ys7 hl7 hsm7); clear hl7 hsm7 hf7 hg7 hb7 hn7)
                  | fail)
              all_goals (go_wp2_with (first
                | (go_at_call 23; refine (num_any _ _).mono ?_; rintro e w3 ⟨rfl, rfl⟩)
                | (go_at_call 10; refine (knows_any _).mono ?_; rintro e w9 ⟨rfl, hb9⟩; have HB9 := Lib.hid (below_step HV.out HV.out.size (below_step b8 b8.size hb9)); clear hb9)
                | fail))
              all_goals go_ret
              all_goals exact ⟨rfl, HB9.out⟩
  · have hle' : (le == 0) = false := by simpa using hle
    go_wp2_with (first
      | (go_at_call 23; refine (num_any _ _).mono ?_; rintro e w3 ⟨rfl, rfl⟩)
      | (go_at_call 10; refine (knows_any _).mono ?_; rintro e w3 ⟨rfl, hb3⟩; have HB3 := Lib.hid (below_step HB2.out HB2.out.size hb3); clear hb3)
      | fail)
    go_ret
    exact ⟨rfl, HB3.out⟩
end Go.Proofs.Ytbnbeailbhnbdaa
