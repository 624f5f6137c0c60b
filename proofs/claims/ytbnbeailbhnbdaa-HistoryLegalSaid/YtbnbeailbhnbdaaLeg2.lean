/-
  Legal.
-/
import Derived.Test.YtbnbeailbhnbdaaLegQ
import Derived.Test.YtbnbeailbhnbdaaModN
import Derived.RegionTactic
import Derived.BigRegion
set_option linter.unusedVariables false
set_option linter.unusedSimpArgs false
namespace Go.Proofs.Ytbnbeailbhnbdaa
open Go.RowKit
attribute [local go_sem] Oper.semAt_some

theorem enter_marks {P : Program} {f : FuncId} {fn : Func} {c : Code} {args : Array Value} {w : World} {R : Ending → World → Prop} (hf : P.funcs[f]? = some fn) (hb : fn.body = some c)
    (h : c.wp P (bodyPostM Fence.wide 0 P fn R) { tmps := args ++ Array.replicate (fn.ntmps - args.size) undef, defers := [] } w) : Calls P f args w R :=
  (callsIn_wide (n := 0)).1 (callsIn_of_wp_marks hf hb trivial ((wpIn_wide (n := 0)).2 h) rfl)
theorem CallSees.below {c : CV} {data : List UInt8} {recs : List (List UInt8)} {W W' : World} (h : CallSees c data recs W) (hb : Below W.heap.size W W') : CallSees c data recs W' := by
  obtain ⟨D, dc, R, nr, rc, T, e1, e2, e3, hs, hr⟩ := h
  exact ⟨D, dc, R, nr, rc, T, e1, e2, e3, hs.below hb, hr.below hb⟩
/-- A row of calls, with their data and records. -/
def FullsOf (gc : Nat) (A : Option Addr) (xs : List Full) (n : Nat) (W : World) : Prop := CallsOf gc A (cvs xs) n W ∧ ∀ x ∈ xs, CallSees x.1 x.2.1 x.2.2 W
theorem FullsOf.below {gc : Nat} {A : Option Addr} {xs : List Full} {n : Nat} {W W' : World} (h : FullsOf gc A xs n W) (hb : Below W.heap.size W W') : FullsOf gc A xs n W' := ⟨h.1.below hb, fun x hx => (h.2 x hx).below hb⟩
/-- Block g holds these Booleans. -/
def BoolsAt (g : Nat) (ms : List Bool) (W : World) : Prop := W.heap[g]? = some (.cells (ms.map Value.bool).toArray 4 (0, 0))
section
variable {g : Nat} {ms : List Bool} {W : World}
theorem BoolsAt.cell (h : BoolsAt g ms W) {i : Nat} (hi : i < ms.length) : W.cell? ⟨g, i, none⟩ = some (.bool (ms.getD i false)) := by
  rw [cell_of_row W g i _ _ _ h]
  simp [hi, List.getD_eq_getElem?_getD]
theorem BoolsAt.frozen (h : BoolsAt g ms W) (i : Nat) : W.frozen? ⟨g, i, none⟩ = false := by
  unfold BoolsAt at h
  simp [World.frozen?, h]
theorem BoolsAt.set (h : BoolsAt g ms W) (i : Nat) (v : Bool) : BoolsAt g (ms.set i v) (W.setCell ⟨g, i, none⟩ (.bool v)) := by
  unfold BoolsAt at *
  simp [World.setCell, Array.getElem?_modify, h, List.map_set]
theorem BoolsAt.lt (h : BoolsAt g ms W) : g < W.heap.size := (Array.getElem?_eq_some_iff.1 h).1
theorem BoolsAt.below {W' : World} (h : BoolsAt g ms W) (hb : Below W.heap.size W W') : BoolsAt g ms W' := (hb.block g h.lt).trans h
end
def RetLegal (xs : List Full) (os : List Int) (w : World) (e : Ending) (w' : World) : Prop := ∃ a e0, e = .returned (.tuple #[.int .i64 a, .int .i64 e0]) ∧ LegalIs xs os a e0 ∧ Below w.heap.size w w'
theorem there_one (w : World) : (w.alloc (.cells zeros12 62)).there w.heap.size 0 12 :=
  there_of_block (cs := zeros12) (t := 62) (by show (w.heap.push _)[w.heap.size]? = _; simp) 12 rfl
/-- A call lies in a new box. -/
theorem box_call {c : CV} (w : World) (hone : ∀ v ∈ c.cells.toList, v.oneCell' = true) : Below w.heap.size w ((w.alloc (.cells zeros12 62)).setCells w.heap.size 0 c.cells.toList) ∧ ((w.alloc (.cells zeros12 62)).setCells w.heap.size 0 c.cells.toList).rangeAt w.heap.size 0 c.cells.toList :=
  ⟨below_cells (Nat.le_refl _) _ _ _ ((Below.refl _ _).alloc (Nat.le_refl _) _), World.rangeAt_setCells_same _ _ _ _ (there_one w)⟩
theorem legal_end {xs : List Full} {os : List Int} {w W : World} {fn : Func} (hfn : fn.results = #[.tmp 4, .tmp 5]) {tm : Array Value} {a e : Int} (h4 : tm.getD 4 undef = .int .i64 a) (h5 : tm.getD 5 undef = .int .i64 e) (h : LegalIs xs os a e) (hb : Below w.heap.size w W) :
    bodyPostM Fence.wide 0 Try.prog fn (RetLegal xs os w) .ret { tmps := tm, defers := [] } W := by
  refine ⟨.tuple #[.int .i64 a, .int .i64 e], ?_, ?_⟩
  · rw [results_tmp2 hfn, h4, h5]
  · exact ⟨a, e, rfl, h, hb⟩
theorem legal_end1 {xs : List Full} {os : List Int} {w W : World} {fn : Func} (hfn : fn.results = #[.tmp 4, .tmp 5]) {tm : Array Value} {a e : Int} {D : Nat} (hD : w.heap.size ≤ D) (hd : W.heap[D]? = some (.deferred (some []))) (h4 : tm.getD 4 undef = .int .i64 a) (h5 : tm.getD 5 undef = .int .i64 e) (h : LegalIs xs os a e) (hb : Below w.heap.size w W) :
    bodyPostM Fence.wide 0 Try.prog fn (RetLegal xs os w) .ret { tmps := tm, defers := [{ target := .collected D, args := #[] }] } W := by
  refine ⟨by simp, .inl ⟨_, _, rfl, run_takeDeferred hd, ?_⟩⟩
  refine ⟨.tuple #[.int .i64 a, .int .i64 e], ?_, ?_⟩
  · rw [results_tmp2 hfn, h4, h5]
  · exact ⟨a, e, rfl, h, hb.trans (below_putObj (by have := hb.size; omega) hd)⟩
/-- wp_rangeX for pairs, without a break; the frame behind the assignment is a function of the pair. -/
theorem wp_rangeB {P : Program} (F : Nat → Int → Act) {g : Operand} {ps : Array Tmp} {assign body : Code} {Q : Exit → Act → World → Prop} {a : Act} {w : World}
    {gf : Nat} {lb : Array Value} (hg : a.eval g = .func (.func gf) #[] lb) (eg : ∀ args w, (callFunc gf args).run P w = .ok (.enter gf args) w)
    {enc : Nat → Nat × Int → Array Value → World → Prop} {xs : List (Nat × Int)} {Kb : Nat → Prop} {w0 : World} (hseq : SeqX P gf lb enc xs NoStep Kb w0)
    (hKb : ∀ b, Kb b → b < w.heap.size) (hb0 : Below w0.heap.size w0 w) (hps : ∀ k x args W, enc k x args W → args.size = ps.size)
    (I : Nat → World → Prop) (hI : OwnFrom w.heap.size I) (h0 : I 0 w)
    (hassign : ∀ (l k i : Nat) (v : Int) (args : Array Value) (W : World) (K : Act → World → Prop), xs[k]? = some (i, v) → enc k (i, v) args W → I k W → (∀ W', KeepsFrom w.heap.size W W' → KeptOn Kb W W' → I k W' → K (F i v) W') →
      assign.wpIn (Fence.wide.inRound l) 0 P (Exit.then K (fun _ _ _ => False)) { tmps := (ps.zip args).foldl (fun t (p, v) => t.setIfInBounds p v) a.tmps, defers := [] } W)
    (hbody : ∀ (l k i : Nat) (v : Int) (W : World), xs[k]? = some (i, v) → I k W → body.wpIn (Fence.wide.inRound l) 0 P (roundX w.heap.size Kb I (fun _ _ _ => False) k W) (F i v) W)
    (hdone : ∀ (D : Nat) (W : World), w.heap.size ≤ D → I xs.length W → W.heap[D]? = some (.deferred (some [])) → Q .normal { a with defers := { target := .collected D, args := #[] } :: a.defers } W) :
    (Code.rangeFunc g ps assign body).wpIn Fence.wide 0 P Q a w := by
  refine wp_rangeX hg eg hseq (fun A B k o h => h.elim) hKb hb0 hps I (fun _ _ _ => False) hI (fun _ _ _ _ _ h _ _ => h) (fun k A B h h' => h'.elim) (fun _ _ _ _ h _ => h) h0 (fun j a' W => ∃ i v, xs[j]? = some (i, v) ∧ a' = F i v) (fun j a' _ X Y row h _ _ => h) ?_ ?_ hdone (fun D c k W hD hk h => h.elim)
  · rintro l k ⟨i, v⟩ args W K hx he hi hK
    exact hassign l k i v args W K hx he hi (fun W' h1 h2 h3 => hK _ _ h1 h2 h3 ⟨i, v, hx, rfl⟩)
  · rintro l k ⟨i, v⟩ a' W hx hi ⟨i', v', hx', rfl⟩
    rw [hx] at hx'
    cases hx'
    exact hbody l k i v W hx hi
/-- Between two rounds of the walk from the end. -/
def lgI (w : World) (bl b11 b12 sz : Nat) (A : Option Addr) (n cp m : Nat) (cs : List CV) (os : List Int) (k : Nat) (W : World) : Prop :=
  ∃ late : Int, Box W bl 45 (.slice A n cp) ∧ Box W b11 3 (.int .i64 late) ∧ Box W b12 3 (.int .i64 (leastL cs (os.drop (m - k)))) ∧ LateIs cs os (m - k) late ∧ Below w.heap.size w W ∧ k ≤ m ∧ sz ≤ W.heap.size
theorem lgI_mild {w : World} {bl b11 b12 sz n cp m k X : Nat} {A : Option Addr} {cs : List CV} {os : List Int} {W W' : World} (h : lgI w bl b11 b12 sz A n cp m cs os k W) (h1 : bl ≠ X) (h2 : b11 ≠ X) (h3 : b12 ≠ X) (hm : Mild w.heap.size X W W') : lgI w bl b11 b12 sz A n cp m cs os k W' := by
  obtain ⟨late, x1, x2, x3, hl, hb, hk, hs⟩ := h
  exact ⟨late, hm.box x1 h1, hm.box x2 h2, hm.box x3 h3, hl, hm.below hb (Nat.le_refl _), hk, Nat.le_trans hs hm.size⟩
/-- Within a round. -/
def LG (w : World) (Kb : Nat → Prop) (bl b11 b12 : Nat) (A : Option Addr) (n cp : Nat) (late least : Int) (W W' : World) : Prop :=
  KeepsOthers W W' ∧ KeptOn Kb W W' ∧ Box W' bl 45 (.slice A n cp) ∧ Box W' b11 3 (.int .i64 late) ∧ Box W' b12 3 (.int .i64 least) ∧ Below w.heap.size w W'
section
variable {w : World} {Kb : Nat → Prop} {bl b11 b12 n cp : Nat} {A : Option Addr} {late least : Int} {W W' : World}
theorem LG.drew (h : LG w Kb bl b11 b12 A n cp late least W W') : LG w Kb bl b11 b12 A n cp late least W W'.drew :=
  ⟨h.1.trans (KeepsOthers.drew _), h.2.1, h.2.2.1, h.2.2.2.1, h.2.2.2.2.1, h.2.2.2.2.2.drew⟩
theorem LG.set11 (h : LG w Kb bl b11 b12 A n cp late least W W') (v : Int) (h1 : ¬ Kb b11) (h2 : b11 ≠ bl) (h3 : b11 ≠ b12) (h4 : w.heap.size ≤ b11) : LG w Kb bl b11 b12 A n cp v least W (W'.setCell ⟨b11, 0, none⟩ (.int .i64 v)) :=
  ⟨h.1.trans (KeepsOthers.setCell _ _ _), h.2.1.trans (KeptOn.set _ h1), h.2.2.1.far _ _ h2, h.2.2.2.1.set _, h.2.2.2.2.1.far _ _ h3, h.2.2.2.2.2.setCell (p := ⟨b11, 0, none⟩) h4 _⟩
theorem LG.set12 (h : LG w Kb bl b11 b12 A n cp late least W W') (v : Int) (h1 : ¬ Kb b12) (h2 : b12 ≠ bl) (h3 : b12 ≠ b11) (h4 : w.heap.size ≤ b12) : LG w Kb bl b11 b12 A n cp late v W (W'.setCell ⟨b12, 0, none⟩ (.int .i64 v)) :=
  ⟨h.1.trans (KeepsOthers.setCell _ _ _), h.2.1.trans (KeptOn.set _ h1), h.2.2.1.far _ _ h2, h.2.2.2.1.far _ _ h3, h.2.2.2.2.1.set _, h.2.2.2.2.2.setCell (p := ⟨b12, 0, none⟩) h4 _⟩
theorem LG.done {m j i sz : Nat} {cs : List CV} {os : List Int} (h : LG w Kb bl b11 b12 A n cp late least W W') (hi : m - (j + 1) = i) (hl : LateIs cs os i late) (he : leastL cs (os.drop i) = least) (hj : j < m) (hs : sz ≤ W.heap.size) (k : Nat) :
    KeepsFrom k W W' ∧ KeptOn Kb W W' ∧ lgI w bl b11 b12 sz A n cp m cs os (j + 1) W' :=
  ⟨h.1.from _, h.2.1, late, h.2.2.1, h.2.2.2.1, by rw [hi, he]; exact h.2.2.2.2.1, by rw [hi]; exact hl, h.2.2.2.2.2, hj, Nat.le_trans hs h.2.1.1⟩
end
set_option maxRecDepth 16384 in
set_option maxHeartbeats 8000000 in
theorem legal_any {gc : Nat} {A O : Option Addr} {n cp m oc : Nat} {xs : List Full} {os : List Int} (w : World) (h : FullsOf gc A xs n w) (hgc : gc ≤ w.heap.size) (hn : n ≤ 140737488355328) (hO : Sees w O (os.map i64v)) (hm : os.length = m) (hm' : m ≤ 140737488355328) (hd : ∀ x ∈ xs, x.2.1.length ≤ 140737488355328) :
    Calls Try.prog 21 #[.slice A n cp, .slice O m oc] w (RetLegal xs os w) := by
  have hxn : xs.length = n := by have := h.1.1; rwa [cvs_length] at this
  obtain ⟨W1, hW1⟩ : ∃ W1, w.alloc (.cells #[.slice A n cp] 45) = W1 := ⟨_, rfl⟩
  have hb1 : Below w.heap.size w W1 := by rw [← hW1]; exact (Below.refl _ _).alloc (Nat.le_refl _) _
  obtain ⟨bl, hbl⟩ : ∃ bl, w.heap.size = bl := ⟨_, rfl⟩
  have x1 : Box W1 bl 45 (.slice A n cp) := by rw [← hW1, ← hbl]; exact Box.new _ _ _
  have hR := right_any (cp := cp) W1 (h.below hb1).1 hn (by rw [← hW1]; simp; omega)
  obtain ⟨r, hr⟩ : ∃ r, rightC (cvs xs) = r := ⟨_, rfl⟩
  rw [hr] at hR
  have HF := Lib.hid h
  have HR := Lib.hid hR
  have HRR := Lib.hid hr
  have HB1 := Lib.hid hb1
  have HX1 := Lib.hid x1
  have HO := Lib.hid hO
  have HM := Lib.hid hm
  have HD := Lib.hid hd
  have HXN := Lib.hid hxn
  have HW1 := Lib.hid hW1
  have HBL := Lib.hid hbl
  have HGC := Lib.hid hgc
  have c1 := x1.cell
  clear h hR hr hb1 x1 hO hm hd hxn hW1 hgc
  refine enter_marks Try.func21 rfl ?_
  simp only [Try.ntmps21, List.size_toArray, List.length_cons, List.length_nil, Nat.reduceAdd, Nat.reduceSub, Array.replicate_succ, Array.replicate_zero, List.push_toArray, List.append_toArray, List.nil_append, List.cons_append]
  go_upto_region 1 with fail
  try rw [HW1.out]
  try rw [hbl]
  clear hbl
  cases r with
  | false =>
    go_wp2_with (first
      | (go_at_call 28; refine HR.out.mono ?_; rintro e w2 ⟨rfl, hb2⟩; have HB2 := Lib.hid hb2; clear hb2)
      | fail)
    refine legal_end rfl rfl rfl (.inl ⟨HRR.out, rfl, rfl⟩) (below_step HB1.out HB1.out.size HB2.out)
  | true =>
    have hn2 : n ≤ 2000 := by have := (right_alone HRR.out).1; rw [cvs_length, HXN.out] at this; exact this
    have hmk := run_make_row' (P := Try.prog) 68 4 (.bool false) 1 Try.underlying68 (by kernel_rfl) rfl .i64 .i64 n (by omega) (by omega)
    go_upto_region 3 with (first
      | (go_at_call 28; refine HR.out.mono ?_; rintro e w2 ⟨rfl, hb2⟩; have HB2 := Lib.hid hb2; have c2 := (hb2.cell (World.block_lt_of_cell? _ _ c1)).trans c1; clear hb2)
      | fail)
    obtain ⟨g, hg⟩ : ∃ g, w2.heap.size = g := ⟨_, rfl⟩
    obtain ⟨W3, hW3⟩ : ∃ W3, w2.alloc (.cells (madeCells #[.bool false] n) 4) = W3 := ⟨_, rfl⟩
    have hb3 : Below w2.heap.size w2 W3 := by rw [← hW3]; exact (Below.refl _ _).alloc (Nat.le_refl _) _
    have hg3 : BoolsAt g (metL n os 0) W3 := by
      rw [← hW3, ← hg, metL_zero]
      show (w2.heap.push _)[w2.heap.size]? = _
      have : madeCells #[Value.bool false] n = ((List.replicate n false).map Value.bool).toArray := by
        apply Array.ext'
        rw [toList_madeCells_one]
        simp
      rw [this]
      simp
    have hb13 : Below W1.heap.size W1 W3 := below_step HB2.out HB2.out.size hb3
    have HB3 : Hid (Below w.heap.size w W3) := Lib.hid (below_step HB1.out HB1.out.size hb13)
    have HX3 : Hid (Box W3 bl 45 (.slice A n cp)) := Lib.hid (HX1.out.below hb13 HX1.out.lt)
    have HBG : Hid (bl < g) := Lib.hid (by have := HX1.out.lt; have := HB2.out.size; omega)
    have HG0 : Hid (g < W3.heap.size) := Lib.hid hg3.lt
    have HST : Hid (BoolsAt g (metL n os 0) W3) := Lib.hid hg3
    have HW3 := Lib.hid hW3
    have HGG := Lib.hid hg
    clear hb3 hg3 hb13 hW3 hg c1
    have HOW : Hid (∀ W', Below w.heap.size w W' → ∀ k, k < m → ∃ ad, O = some ad ∧ W'.cell? (ad.add k) = some (.int .i64 (os.getD k 0))) := Lib.hid (by
      intro W' hb k hk
      obtain ⟨ad, e, hc⟩ := HO.out k (.int .i64 (os.getD k 0)) (by
        rw [List.getElem?_map, List.getElem?_eq_getElem (by rw [HM.out]; exact hk), getD_of (by rw [HM.out]; exact hk)]
        rfl)
      exact ⟨ad, e, (hb.cell (World.block_lt_of_cell? _ _ hc)).trans hc⟩)
    go_upto_region 4 with fail
    try rw [HGG.out]
    try rw [HW3.out]
    have rel0 : ∃ k : Nat, Value.int .i64 0 = .int .i64 (k : Int) ∧ k ≤ m ∧ (∀ j, j < k → ordOK n os j = true) ∧ BoolsAt g (metL n os k) W3 ∧ Outside (· = g) W3 W3 :=
      ⟨0, rfl, Nat.zero_le _, fun j hj => by omega, HST.out, Outside.refl _ _⟩
    have REL0 := Lib.hid rel0
    clear rel0
    go_wp2_with fail
    go_loopw [26] (fun s wr => ∃ k : Nat, s = .int .i64 (k : Int) ∧ k ≤ m ∧ (∀ j, j < k → ordOK n os j = true) ∧ BoolsAt g (metL n os k) wr ∧ Outside (· = g) W3 wr) (fun s _ => m - (intOf s).toNat)
    case atStart => exact REL0.out
    case round =>
      obtain ⟨k, rfl, hk, hok, hmet, hout⟩ := hrel
      have HOK := Lib.hid hok
      have HOUT := Lib.hid hout
      have HBR : Hid (Below w.heap.size w wr) := Lib.hid (HB3.out.trans (hout.below (fun b hb => by have := HBG.out; have := HBL.out; omega) HB3.out.size))
      have hbl0 : Box wr bl 45 (.slice A n cp) := (hout.block bl HX3.out.lt (by have := HBG.out; omega)).trans HX3.out
      have c2 := hbl0.cell
      have HXB := Lib.hid hbl0
      clear hok hout hbl0
      by_cases hlt : k < m
      · have hki : (k : Int) < (m : Int) := by omega
        obtain ⟨ad, rfl, hc⟩ := HOW.out wr HBR.out k hlt
        obtain ⟨v, hv⟩ : ∃ v, os.getD k 0 = v := ⟨_, rfl⟩
        rw [hv] at hc
        have HV := Lib.hid hv
        clear hv
        have HNO : Hid (ordOK n os k = false → LegalIs xs os 0 1) := Lib.hid (fun h => .inr ⟨HRR.out, .inl ⟨(fun hp => by rw [HXN.out] at hp; rw [hp k (by rw [HM.out]; exact hlt)] at h; cases h), rfl, rfl⟩⟩)
        by_cases g1 : v < 0
        · go_wp2_with fail
          exact legal_end rfl rfl rfl (HNO.out (by unfold ordOK; rw [HV.out]; simp; omega)) HBR.out
        · by_cases g2 : (n : Int) ≤ v
          · have g3 : ¬ v < (n : Int) := by omega
            go_wp2_with fail
            exact legal_end rfl rfl rfl (HNO.out (by unfold ordOK; rw [HV.out]; simp; omega)) HBR.out
          · obtain ⟨x, rfl⟩ : ∃ x : Nat, v = (x : Int) := ⟨v.toNat, by omega⟩
            have hxn : x < n := by omega
            have g3 : (x : Int) < (n : Int) := by omega
            have c3 := hmet.cell (i := x) (by rw [metL_length]; exact hxn)
            rw [metL_get hxn] at c3
            have f3 := hmet.frozen x
            have HMET := Lib.hid hmet
            obtain ⟨b, hb⟩ : ∃ b, (os.take k).contains (x : Int) = b := ⟨_, rfl⟩
            rw [hb] at c3
            have HBB := Lib.hid hb
            clear hmet hb
            cases b with
            | true =>
              go_wp2_with fail
              exact legal_end rfl rfl rfl (HNO.out (by unfold ordOK; rw [HV.out, HBB.out]; simp)) HBR.out
            | false =>
              go_wp2_with fail
              go_roundw
              case rel =>
                refine ⟨k + 1, by go_num, hlt, ?_, ?_, HOUT.out.set _ _ (.inr rfl)⟩
                · intro j hj
                  rcases Nat.lt_or_ge j k with h9 | h9
                  · exact HOK.out j h9
                  · obtain rfl : j = k := by omega
                    unfold ordOK
                    rw [HV.out, HBB.out]
                    simp
                    omega
                · rw [← metL_set (by rw [HM.out]; exact hlt) HV.out]
                  exact HMET.out.set x true
              case measure => simp [intOf] <;> omega
      · have hki : ¬ (k : Int) < (m : Int) := by omega
        have hkm : k = m := by omega
        have HORD : Hid (ordP n os) := Lib.hid (fun j hj => HOK.out j (by rw [hkm, ← HM.out]; exact hj))
        rw [hkm, ← HM.out] at hmet
        clear hkm
        obtain ⟨wq, hwq⟩ : ∃ wq : World, wq = wr := ⟨_, rfl⟩
        subst hwq
        clear HOK HOUT REL0 HST HX3 HB3
        have HBQ : Hid (Below w.heap.size w wq) := HBR
        have HMETQ := Lib.hid hmet
        have REL1 : Hid (∃ k' : Nat, Value.int .i64 0 = .int .i64 (k' : Int) ∧ k' ≤ n ∧ (∀ j, j < k' → ansOK (cvs xs) os j = true) ∧ Below wq.heap.size wq wq) := Lib.hid ⟨0, rfl, Nat.zero_le _, fun j hj => by omega, Below.refl _ _⟩
        clear hmet
        go_wp2_with fail
        go_loopw [50] (fun s wr => ∃ k' : Nat, s = .int .i64 (k' : Int) ∧ k' ≤ n ∧ (∀ j, j < k' → ansOK (cvs xs) os j = true) ∧ Below wq.heap.size wq wr) (fun s _ => n - (intOf s).toNat)
        case atStart => exact REL1.out
        case round =>
          obtain ⟨k', rfl, hk', hok, hbr⟩ := hrel
          have HOK := Lib.hid hok
          have HBR2 := Lib.hid hbr
          have HBW : Hid (Below w.heap.size w wr) := Lib.hid (below_step HBQ.out HBQ.out.size hbr)
          clear hok
          by_cases hlt : k' < n
          · have hki2 : (k' : Int) < (n : Int) := by omega
            have hff := HF.out.below ((HBW.out.mono (Nat.le_refl _)))
            obtain rfl := hff.1.2.1 (by omega)
            have hcl : k' < (cvs xs).length := by rw [cvs_length, HXN.out]; exact hlt
            obtain ⟨c, hc⟩ : ∃ c, atC (cvs xs) (k' : Int) = c := ⟨_, rfl⟩
            have hget : (cvs xs)[k']? = some c := by
              rw [← hc]
              unfold atC
              rw [Int.toNat_natCast, List.getD_eq_getElem?_getD, List.getElem?_eq_getElem hcl]
              rfl
            have hra := hff.1.2.2.1 k' c hget
            have hone := oneCells c (hff.1.2.2.2 c (List.mem_of_getElem? hget)).1 (hff.1.2.2.2 c (List.mem_of_getElem? hget)).2
            have HRA := Lib.hid hra
            have HONE := Lib.hid hone
            have HCC := Lib.hid hc
            have hmt := HMETQ.out.below hbr
            have c3 := hmt.cell (i := k') (by rw [metL_length]; exact hlt)
            rw [metL_all n os k' hlt] at c3
            have hin : g < wr.heap.size := hmt.lt
            clear hff hget hra hone hc hmt hbr hcl
            obtain ⟨b, hb⟩ : ∃ b, os.contains (k' : Int) = b := ⟨_, rfl⟩
            rw [hb] at c3
            have HBB := Lib.hid hb
            clear hb
            have hone' : c.cells.all (·.oneCell') = true := by
              have := all_oneCell_toArray HONE.out
              simpa using this
            obtain ⟨hbx, hrx⟩ := box_call (c := c) wr HONE.out
            obtain ⟨W4, hW4⟩ : ∃ W4, ((wr.alloc (.cells zeros12 62)).setCells wr.heap.size 0 c.cells.toList) = W4 := ⟨_, rfl⟩
            rw [hW4] at hbx hrx
            obtain ⟨bc, hbc⟩ : ∃ bc, wr.heap.size = bc := ⟨_, rfl⟩
            have x5 : W4.cell? ⟨bc, 5, none⟩ = some (.bool c.ans) := by rw [← hbc]; exact hrx 5 _ rfl
            have x3 : W4.cell? ⟨g, k', none⟩ = some (.bool b) := (hbx.cell hin).trans c3
            have HBX := Lib.hid hbx
            have HW4 := Lib.hid hW4
            have HBC := Lib.hid hbc
            have HONE' := Lib.hid hone'
            clear hbx hrx hW4 hbc hone'
            obtain ⟨an, han⟩ : ∃ an, c.ans = an := ⟨_, rfl⟩
            rw [han] at x5
            have HAN := Lib.hid han
            clear han
            go_upto_region 14 with (first
              | (refine wpList_load_call rfl _ rfl gc k' rfl c HRA.out ?_)
              | (refine wpList_store_mid rfl 62 _ _ rfl wr.heap.size 0 c.cells rfl rfl (there_one wr) (by kernel_rfl) HONE'.out ?_)
              | fail)
            have hW4 := HW4.out
            unfold zeros12 at hW4
            rw [hW4, HBC.out]
            clear hW4
            cases an with
            | false =>
              go_wp2_with fail
              go_roundw
              case rel =>
                refine ⟨k' + 1, by go_num, hlt, ?_, below_step HBR2.out HBR2.out.size HBX.out⟩
                intro j hj
                rcases Nat.lt_or_ge j k' with h9 | h9
                · exact HOK.out j h9
                · obtain rfl : j = k' := by omega
                  unfold ansOK
                  rw [HCC.out, HAN.out]
                  rfl
              case measure => simp [intOf] <;> omega
            | true =>
              cases b with
              | true =>
                go_wp2_with fail
                go_roundw
                case rel =>
                  refine ⟨k' + 1, by go_num, hlt, ?_, below_step HBR2.out HBR2.out.size HBX.out⟩
                  intro j hj
                  rcases Nat.lt_or_ge j k' with h9 | h9
                  · exact HOK.out j h9
                  · obtain rfl : j = k' := by omega
                    unfold ansOK
                    rw [HCC.out, HAN.out, HBB.out]
                    rfl
                case measure => simp [intOf] <;> omega
              | false =>
                go_wp2_with fail
                refine legal_end rfl rfl rfl (.inr ⟨HRR.out, .inr ⟨by rw [HXN.out]; exact HORD.out, .inl ⟨fun hp => ?_, by rw [HM.out], rfl⟩⟩⟩) (below_step HBW.out HBW.out.size HBX.out)
                have h9 := hp k' (by rw [cvs_length, HXN.out]; exact hlt)
                unfold ansOK at h9
                rw [HCC.out, HAN.out, HBB.out] at h9
                cases h9
          · have hki2 : ¬ (k' : Int) < (n : Int) := by omega
            have hkn : k' = n := by omega
            have HANS : Hid (ansP (cvs xs) os) := Lib.hid (fun j hj => HOK.out j (by rw [cvs_length, HXN.out] at hj; rw [hkn]; exact hj))
            have HXZ : Hid (Box wr bl 45 (.slice A n cp)) := Lib.hid (HXB.out.below hbr HXB.out.lt)
            clear hkn
            obtain ⟨wz, hwz⟩ : ∃ wz : World, wz = wr := ⟨_, rfl⟩
            subst hwz
            clear HOK HBR2 REL1 HMETQ HBG HG0 HGG HW3 HBQ hbr
            have HFZ : Hid (FullsOf gc A xs n wz) := Lib.hid (HF.out.below HBW.out)
            go_wp2_with (first
              | (go_at_call 31; refine (back_any _ rfl _).mono ?_; rintro e w5 ⟨rfl, hw5⟩)
              | fail)
            obtain ⟨b11, h11⟩ : ∃ b11, wz.heap.size = b11 := ⟨_, rfl⟩
            have hsz : w5.heap.size = b11 + 3 := by rw [← hw5, ← h11]; simp
            have hb5 : Below wz.heap.size wz w5 := by
              rw [← hw5]
              exact (((Below.refl wz.heap.size wz).alloc (Nat.le_refl _) _).alloc (by simp) _).alloc (by simp; omega) _
            have y1 : Box w5 b11 3 (.int .i64 (-1)) := by
              rw [← hw5, ← h11]
              exact ((Box.new wz _ _).alloc _).alloc _
            have y2 : Box w5 (b11 + 1) 3 (.int .i64 1099511627776) := by
              rw [← hw5, ← h11]
              have := (Box.new (wz.alloc (.cells #[.int .i64 (-1)] 3)) 3 (.int .i64 1099511627776)).alloc (.cells #[.slice O m oc] 41)
              simpa using this
            have y3 : Box w5 (b11 + 2) 41 (.slice O m oc) := by
              rw [← hw5, ← h11]
              have := Box.new ((wz.alloc (.cells #[.int .i64 (-1)] 3)).alloc (.cells #[.int .i64 1099511627776] 3)) 41 (.slice O m oc)
              simpa using this
            have hbw5 : Below w.heap.size w w5 := below_step HBW.out HBW.out.size hb5
            have hxb5 : Box w5 bl 45 (.slice A n cp) := HXZ.out.below hb5 HXZ.out.lt
            have hbl1 : bl < b11 := by have := HXZ.out.lt; omega
            have hord5 : OrdSee (fun b => b < b11 + 3 ∧ b ≠ b11 ∧ b ≠ b11 + 1) (b11 + 2) O m oc os w5 := by
              refine ⟨y3.cell, HM.out, HO.out.below hbw5, by omega, fun h0 ad e => ?_⟩
              obtain ⟨ad', e', hc⟩ := HO.out 0 (.int .i64 (os.getD 0 0)) (by
                rw [List.getElem?_map, List.getElem?_eq_getElem (by rw [HM.out]; exact h0), getD_of (by rw [HM.out]; exact h0)]
                rfl)
              rw [e] at e'
              cases e'
              have h9 := World.block_lt_of_cell? _ _ hc
              rw [add_blk] at h9
              have := HXZ.out.lt
              have := HBW.out.size
              have := HBL.out
              omega
            have HW5 := Lib.hid hw5
            have HB5 := Lib.hid hbw5
            have HRI : Hid (lgI w bl b11 (b11 + 1) (b11 + 3) A n cp m (cvs xs) os 0 w5) := Lib.hid ⟨-1, hxb5, y1, by rw [Nat.sub_zero, ← HM.out, List.drop_length]; exact y2, by rw [Nat.sub_zero, ← HM.out]; exact late_end, hbw5, Nat.zero_le _, by omega⟩
            have HORS := Lib.hid hord5
            have H11 := Lib.hid h11
            rw [h11]
            clear hw5 hb5 y1 y2 y3 hbw5 hxb5 hord5 h11
            refine (wpIn_wide (n := 0)).1 ?_
            refine wp_rangeB ?F (w0 := w5) rfl (fun args w => by kernel_rfl) (back_seq (fun b => b < b11 + 3 ∧ b ≠ b11 ∧ b ≠ b11 + 1) (b11 + 2) O m oc os w5 HORS.out hm')
              ?hKb (Below.refl _ _) ?hps (fun j W => lgI w bl b11 (b11 + 1) (b11 + 3) A n cp m (cvs xs) os j W) ?hI ?h0 ?hassign ?hbody ?hdone
            case hKb => exact fun b h => by omega
            case hps =>
              rintro k x args W rfl
              rfl
            case hI => exact fun j X Y row h hg hr => lgI_mild (X := b11 + 2) h (by omega) (by omega) (by omega) (Mild.of_grown hg (fun r e => ⟨by have := (hr r e).1; have := HBW.out.size; have := HBL.out; omega, (hr r e).2⟩))
            case h0 => exact HRI.out
            case hassign =>
              rintro ll j i v args W K hx rfl hi hK
              gi_wp2
              exact hK _ (KeepsFrom.refl _ _) (KeptOn.refl _ _) hi
            case hbody =>
              rintro ll j i v W hx ⟨late, x1, x2, x3, hl, hb, hk, hs⟩
              have hjl := (List.getElem?_eq_some_iff.1 hx).1
              rw [backL_length, HM.out] at hjl
              have hxv := backL_get (os := os) (k := j) (by rw [HM.out]; exact hjl)
              rw [hx, HM.out] at hxv
              obtain ⟨rfl, rfl⟩ : m - 1 - j = i ∧ os.getD (m - 1 - j) 0 = v := by
                simp only [Option.some.injEq, Prod.mk.injEq] at hxv
                exact ⟨hxv.1.symm, hxv.2.symm⟩
              obtain ⟨i, hi⟩ : ∃ i, m - 1 - j = i := ⟨_, rfl⟩
              have him : m - j = i + 1 := by omega
              have him2 : m - (j + 1) = i := by omega
              rw [hi] at hx ⊢
              rw [him] at x3 hl
              obtain ⟨x, hxo, hxlt⟩ := ord_mem HORD.out (i := i) (by rw [HM.out]; omega)
              rw [hxo] at hx ⊢
              have hff := HF.out.below (hb.mono (Nat.le_refl _))
              obtain rfl := hff.1.2.1 (by omega)
              have hcl : x < (cvs xs).length := by rw [cvs_length, HXN.out]; exact hxlt
              obtain ⟨c, hc⟩ : ∃ c, atC (cvs xs) (x : Int) = c := ⟨_, rfl⟩
              have hget : (cvs xs)[x]? = some c := by
                rw [← hc]
                unfold atC
                rw [Int.toNat_natCast, List.getD_eq_getElem?_getD, List.getElem?_eq_getElem hcl]
                rfl
              have hra := hff.1.2.2.1 x c hget
              have n2 : gc < bl := by
                have h9 : gc < w.heap.size := World.block_lt_of_cell? _ _ (HF.out.1.2.2.1 x c hget 0 _ rfl)
                have := HBL.out
                omega
              have hal := alone_at (right_alone HRR.out).2 hcl
              rw [hc] at hal
              obtain ⟨hbg0, hbg1⟩ := alone_beg hal
              have hli := late_iff (cs := cvs xs) (os := os) (i := i) (by rw [hxo, hc]; omega)
              rw [hxo, hc] at hli
              have hst : leastL (cvs xs) (os.drop i) = if c.ans then min (leastL (cvs xs) (os.drop (i + 1))) c.fin else leastL (cvs xs) (os.drop (i + 1)) := by
                rw [show os.drop i = (x : Int) :: os.drop (i + 1) by rw [List.drop_eq_getElem_cons (by rw [HM.out]; omega), ← getD_of (by rw [HM.out]; omega), hxo]]
                simp only [leastL, hc]
              obtain ⟨le, hle⟩ : ∃ le, leastL (cvs xs) (os.drop (i + 1)) = le := ⟨_, rfl⟩
              rw [hle] at x3 hli hst
              have xx : (x : Int) < (n : Int) := by omega
              have k1 : W.cell? ⟨gc, x * 12 + 1, none⟩ = some (.int .i64 c.beg) := hra 1 _ rfl
              have k2 : W.cell? ⟨gc, x * 12 + 2, none⟩ = some (.int .i64 c.fin) := hra 2 _ rfl
              have k5 : W.cell? ⟨gc, x * 12 + 5, none⟩ = some (.bool c.ans) := hra 5 _ rfl
              have e1 := x1.cell
              have e2 := x2.cell
              have e3 := x3.cell
              have f2 := x2.frozen
              have f3 := x3.frozen
              have HLG : Hid (LG w (fun b => b < b11 + 3 ∧ b ≠ b11 ∧ b ≠ b11 + 1) bl b11 (b11 + 1) (some ⟨gc, 0, none⟩) n cp late le W W) := Lib.hid ⟨KeepsOthers.refl _, KeptOn.refl _ _, x1, x2, x3, hb⟩
              have j1 : W.drew.cell? ⟨gc, x * 12 + 1, none⟩ = some (.int .i64 c.beg) := k1
              have j2 : W.drew.cell? ⟨bl, 0, none⟩ = some (.slice (some ⟨gc, 0, none⟩) n cp) := e1
              have j3 : W.drew.cell? ⟨b11 + 1, 0, none⟩ = some (.int .i64 le) := e3
              have HST2 := Lib.hid hst
              have HLI := Lib.hid hli
              have HIM := Lib.hid him2
              have HL := Lib.hid hl
              have HX1' := Lib.hid x1
              have HX2' := Lib.hid x2
              have HX3' := Lib.hid x3
              have HBB := Lib.hid hb
              have HII := Lib.hid hi
              obtain ⟨cb, hcb⟩ : ∃ cb, c.beg = cb := ⟨_, rfl⟩
              obtain ⟨cf, hcf⟩ : ∃ cf, c.fin = cf := ⟨_, rfl⟩
              obtain ⟨ca, hca⟩ : ∃ ca, c.ans = ca := ⟨_, rfl⟩
              rw [hcb] at k1 j1 HLI hbg0 hbg1
              rw [hcf] at k2 HST2
              rw [hca] at k5 HST2
              clear hst hli him him2 hl x1 x2 x3 hb hi hff hget hra hal hc hxo hcl hxv hle hx hcb hcf hca
              have h4 : w.heap.size ≤ b11 := by have := HBL.out; omega
              have hnk1 : Hid (¬ (b11 < b11 + 3 ∧ b11 ≠ b11 ∧ b11 ≠ b11 + 1)) := Lib.hid (by omega)
              have hnk2 : Hid (¬ (b11 + 1 < b11 + 3 ∧ b11 + 1 ≠ b11 ∧ b11 + 1 ≠ b11 + 1)) := Lib.hid (by omega)
              have HDEEP : Hid (∀ (W6 : World) (late' : Int), LG w (fun b => b < b11 + 3 ∧ b ≠ b11 ∧ b ≠ b11 + 1) bl b11 (b11 + 1) (some ⟨gc, 0, none⟩) n cp late' le W W6 → W6.cell? ⟨gc, x * 12 + 2, none⟩ = some (.int .i64 cf) ∧ W6.cell? ⟨gc, x * 12 + 5, none⟩ = some (.bool ca)) := Lib.hid (by
                intro W6 late' h6
                have hk : W6.heap[gc]? = W.heap[gc]? := h6.2.1.2 gc (show gc < b11 + 3 ∧ gc ≠ b11 ∧ gc ≠ b11 + 1 by omega)
                exact ⟨(World.cell?_of_block hk).trans k2, (World.cell?_of_block hk).trans k5⟩)
              by_cases g1 : le < cb
              · have HLT : Hid (LateIs (cvs xs) os i (i : Int)) := Lib.hid (late_bad (by have := HIM.out; rw [HM.out]; omega) (by
                  have := HLI.out
                  cases h : lateOK (cvs xs) os i
                  · rfl
                  · have := this.1 h
                    omega))
                cases ca with
                | false =>
                  gi_wp2_with fail
                  refine (fun H : ?G1pf => ?walk1pf) ?rest1pf
                  case walk1pf =>
                    gi_region
                    all_goals exact H
                  case rest1pf =>
                    gi_wp2_with fail
                    exact ((HLG.out.set11 (i : Int) hnk1.out (by omega) (by omega) h4).drew).done HIM.out HLT.out HST2.out hjl hs _
                | true =>
                  gi_wp2_with fail
                  refine (fun H : ?G1pt => ?walk1pt) ?rest1pt
                  case walk1pt =>
                    gi_region
                    all_goals exact H
                  case rest1pt =>
                    gi_wp2_with fail
                    obtain ⟨W6, hW6⟩ : ∃ W6, (W.setCell ⟨b11, 0, none⟩ (.int .i64 (i : Int))).drew = W6 := ⟨_, rfl⟩
                    rw [hW6]
                    have HG6 := Lib.hid ((HLG.out.set11 (i : Int) hnk1.out (by omega) (by omega) h4).drew)
                    rw [hW6] at HG6
                    obtain ⟨d1, d2⟩ := HDEEP.out W6 _ HG6.out
                    have d3 := HG6.out.2.2.1.cell
                    have d4 := HG6.out.2.2.2.2.1.cell
                    have d5 := HG6.out.2.2.2.2.1.frozen
                    have t1 : W6.drew.cell? ⟨gc, x * 12 + 2, none⟩ = some (.int .i64 cf) := d1
                    have t3 : W6.drew.cell? ⟨bl, 0, none⟩ = some (.slice (some ⟨gc, 0, none⟩) n cp) := d3
                    have t4 : W6.drew.cell? ⟨b11 + 1, 0, none⟩ = some (.int .i64 le) := d4
                    have t5 : W6.drew.frozen? ⟨b11 + 1, 0, none⟩ = false := d5
                    clear hW6 e1 e2 e3 f2 f3 j1 j2 j3 k1 k2 k5
                    by_cases g2 : cf < le
                    · refine (fun H : ?G2px => ?walk2px) ?rest2px
                      case walk2px =>
                        gi_region
                        all_goals exact H
                      case rest2px =>
                        gi_wp2_with fail
                        exact (HG6.out.set12 cf hnk2.out (by omega) (by omega) (by omega)).drew.done HIM.out HLT.out (by rw [HST2.out]; simp; omega) hjl hs _
                    · refine (fun H : ?G2py => ?walk2py) ?rest2py
                      case walk2py =>
                        gi_region
                        all_goals exact H
                      case rest2py =>
                        gi_wp2_with fail
                        exact (HG6.out.set12 le hnk2.out (by omega) (by omega) (by omega)).drew.done HIM.out HLT.out (by rw [HST2.out]; simp; omega) hjl hs _
              · have HLT : Hid (LateIs (cvs xs) os i late) := Lib.hid (late_good (HLI.out.2 (by omega)) HL.out)
                cases ca with
                | false =>
                  gi_wp2_with fail
                  refine (fun H : ?G1qf => ?walk1qf) ?rest1qf
                  case walk1qf =>
                    gi_region
                    all_goals exact H
                  case rest1qf =>
                    gi_wp2_with fail
                    exact (HLG.out.drew).done HIM.out HLT.out HST2.out hjl hs _
                | true =>
                  gi_wp2_with fail
                  refine (fun H : ?G1qt => ?walk1qt) ?rest1qt
                  case walk1qt =>
                    gi_region
                    all_goals exact H
                  case rest1qt =>
                    gi_wp2_with fail
                    obtain ⟨W6, hW6⟩ : ∃ W6, W.drew = W6 := ⟨_, rfl⟩
                    rw [hW6]
                    have HG6 := Lib.hid (HLG.out.drew)
                    rw [hW6] at HG6
                    obtain ⟨d1, d2⟩ := HDEEP.out W6 _ HG6.out
                    have d3 := HG6.out.2.2.1.cell
                    have d4 := HG6.out.2.2.2.2.1.cell
                    have d5 := HG6.out.2.2.2.2.1.frozen
                    have t1 : W6.drew.cell? ⟨gc, x * 12 + 2, none⟩ = some (.int .i64 cf) := d1
                    have t3 : W6.drew.cell? ⟨bl, 0, none⟩ = some (.slice (some ⟨gc, 0, none⟩) n cp) := d3
                    have t4 : W6.drew.cell? ⟨b11 + 1, 0, none⟩ = some (.int .i64 le) := d4
                    have t5 : W6.drew.frozen? ⟨b11 + 1, 0, none⟩ = false := d5
                    clear hW6 e1 e2 e3 f2 f3 j1 j2 j3 k1 k2 k5
                    by_cases g2 : cf < le
                    · refine (fun H : ?G2qx => ?walk2qx) ?rest2qx
                      case walk2qx =>
                        gi_region
                        all_goals exact H
                      case rest2qx =>
                        gi_wp2_with fail
                        exact (HG6.out.set12 cf hnk2.out (by omega) (by omega) (by omega)).drew.done HIM.out HLT.out (by rw [HST2.out]; simp; omega) hjl hs _
                    · refine (fun H : ?G2qy => ?walk2qy) ?rest2qy
                      case walk2qy =>
                        gi_region
                        all_goals exact H
                      case rest2qy =>
                        gi_wp2_with fail
                        exact (HG6.out.set12 le hnk2.out (by omega) (by omega) (by omega)).drew.done HIM.out HLT.out (by rw [HST2.out]; simp; omega) hjl hs _
            case hdone =>
              rintro D W hD ⟨late, x1, x2, x3, hl, hb, hk, hs⟩ hK
              rw [backL_length, HM.out, Nat.sub_self] at hl
              have e1 := x1.cell
              have e2 := x2.cell
              have HB := Lib.hid hb
              have HX := Lib.hid x1
              have HK := Lib.hid hK
              have HDW : Hid (w.heap.size ≤ D) := Lib.hid (by have := HBL.out; omega)
              have HDL : Hid (D < W.heap.size) := Lib.hid (Array.getElem?_eq_some_iff.1 hK).1
              clear x1 x2 x3 hb hK
              rcases hl with ⟨rfl, hl⟩ | ⟨i, rfl, hi0, hi1, hi2, hi3⟩
              · have HLATE : Hid (lateP (cvs xs) os) := Lib.hid (fun i hi => hl i (Nat.zero_le _) hi)
                clear hl
                obtain ⟨S, hS⟩ : ∃ S : Nat → Prop, S = (fun b => W.heap.size ≤ b) := ⟨_, rfl⟩
                obtain ⟨gm, hgm⟩ : ∃ gm, W.heap.size = gm := ⟨_, rfl⟩
                go_wp2_with (first
                  | (go_at_call 9; refine (new_any _).mono ?_; rintro e w7 ⟨rfl, hmod, hb7⟩)
                  | fail)
                try rw [hgm]
                rw [hgm] at hmod
                have hlm : ∀ k : Nat, (runM xs os k).1 ≤ k ∧ (runM xs os k).2.length ≤ k := fun k => by have := run_bound xs os k; omega
                have hm20 : m ≤ 2000 := by have := ord_len HORD.out; have := HM.out; omega
                have HLM := Lib.hid hlm
                have HRM := Lib.hid (run_mem (xs := xs) HD.out os)
                have HB7 := Lib.hid hb7
                have HGM := Lib.hid hgm
                have REL7 : Hid (∃ q : Nat, Value.int .i64 0 = .int .i64 (q : Int) ∧ q ≤ m ∧ (∀ j, j < q → fitAt xs os j = true) ∧ ModAt 61 (fun b => gm ≤ b) gm (runM xs os q).1 (runM xs os q).2 w7 ∧ Outside (fun b => gm ≤ b) W w7) :=
                  Lib.hid ⟨0, rfl, Nat.zero_le _, fun j hj => by omega, hmod, Outside.of_below hb7⟩
                clear hlm hb7 hmod hgm hS
                go_loopw [97] (fun s wr => ∃ q : Nat, s = .int .i64 (q : Int) ∧ q ≤ m ∧ (∀ j, j < q → fitAt xs os j = true) ∧ ModAt 61 (fun b => gm ≤ b) gm (runM xs os q).1 (runM xs os q).2 wr ∧ Outside (fun b => gm ≤ b) W wr) (fun s _ => m - (intOf s).toNat)
                case atStart => exact REL7.out
                case round =>
                  obtain ⟨q, rfl, hq, hok, hmod, hout⟩ := hrel
                  have HOK := Lib.hid hok
                  have HMOD := Lib.hid hmod
                  have HOUT := Lib.hid hout
                  have hbr : Below W.heap.size W wr := hout.below (fun b hb => by rw [HGM.out]; exact hb) (Nat.le_refl _)
                  have HBR2 : Hid (Below w.heap.size w wr) := Lib.hid (below_step HB.out HB.out.size hbr)
                  have hxb : Box wr bl 45 (.slice A n cp) := HX.out.below hbr HX.out.lt
                  have c5 := hxb.cell
                  have HKR : Hid (wr.heap[D]? = some (.deferred (some []))) := Lib.hid ((hbr.block D HDL.out).trans HK.out)
                  clear hok hmod hout hbr hxb
                  by_cases hlt : q < m
                  · have hqi : (q : Int) < (m : Int) := by omega
                    obtain ⟨ad, rfl, hc⟩ := HOW.out wr HBR2.out q hlt
                    obtain ⟨x, hxo, hxlt⟩ := ord_mem HORD.out (i := q) (by rw [HM.out]; omega)
                    rw [hxo] at hc
                    have xx : (x : Int) < (n : Int) := by omega
                    have hff := HF.out.below (HBR2.out.mono (Nat.le_refl _))
                    obtain rfl := hff.1.2.1 (by omega)
                    have hcl : x < (cvs xs).length := by rw [cvs_length, HXN.out]; exact hxlt
                    have hcl2 : x < xs.length := by rw [HXN.out]; exact hxlt
                    obtain ⟨y, hy⟩ : ∃ y, atF xs (x : Int) = y := ⟨_, rfl⟩
                    have hget2 : xs[x]? = some y := by
                      rw [← hy]
                      unfold atF
                      rw [Int.toNat_natCast, List.getD_eq_getElem?_getD, List.getElem?_eq_getElem hcl2]
                      rfl
                    have hget : (cvs xs)[x]? = some y.1 := by
                      unfold cvs
                      rw [List.getElem?_map, hget2]
                      rfl
                    have hra := hff.1.2.2.1 x y.1 hget
                    have hmem : y ∈ xs := List.mem_of_getElem? hget2
                    have hsee := hff.2 y hmem
                    have hfit := fits_any y.1 y.2.1 y.2.2 wr HMOD.out (by have := (HLM.out q).1; omega) (by have := (HLM.out q).2; omega) (fun z hz => HRM.out q z hz) (HD.out y hmem) hsee
                    have hfa : fitAt xs os q = (fitOK y.1 y.2.2 (runM xs os q).1 (runM xs os q).2 || !y.1.ans) := by
                      unfold fitAt
                      rw [hxo, hy]
                    have hrs : runM xs os (q + 1) = (fitF y.1 (runM xs os q).1 (runM xs os q).2, fitL y.1 y.2.1 (runM xs os q).1 (runM xs os q).2) := by
                      simp only [runM]
                      rw [hxo, hy]
                    rw [← hfa] at hfit
                    obtain ⟨b, hb⟩ : ∃ b, fitAt xs os q = b := ⟨_, rfl⟩
                    rw [hb] at hfit
                    have HRA := Lib.hid hra
                    have HFIT := Lib.hid hfit
                    have HFB := Lib.hid hb
                    have HRS := Lib.hid hrs
                    clear hff hget hget2 hra hmem hsee hfit hfa hrs hb hxo hy hcl hcl2
                    cases b with
                    | true =>
                      go_wp2_with (first
                        | (refine wpList_load_call rfl _ rfl gc x rfl y.1 HRA.out ?_)
                        | (go_at_call 32; refine HFIT.out.mono ?_; rintro e w8 ⟨rfl, hm8, ho8⟩; have HM8 := Lib.hid hm8; have HO8 := Lib.hid ho8; clear hm8 ho8)
                        | fail)
                      go_roundw
                      case rel =>
                        refine ⟨q + 1, by go_num, hlt, ?_, ?_, ?_⟩
                        · intro j hj
                          rcases Nat.lt_or_ge j q with h9 | h9
                          · exact HOK.out j h9
                          · obtain rfl : j = q := by omega
                            exact HFB.out
                        · rw [HRS.out]
                          refine HM8.out.mono fun b hb => ?_
                          rcases hb with hb | hb
                          · exact hb
                          · have := HOUT.out.size
                            have := HGM.out
                            omega
                        · exact HOUT.out.trans HO8.out (fun b _ hb => hb)
                      case measure => simp [intOf] <;> omega
                    | false =>
                      go_wp2_with (first
                        | (refine wpList_load_call rfl _ rfl gc x rfl y.1 HRA.out ?_)
                        | (go_at_call 32; refine HFIT.out.mono ?_; rintro e w8 ⟨rfl, hm8, ho8⟩; have HM8 := Lib.hid hm8; have HO8 := Lib.hid ho8; clear hm8 ho8)
                        | fail)
                      have hb8 : Below gm wr w8 := HO8.out.below (fun b hb => hb) (by have := HOUT.out.size; have := HGM.out; omega)
                      refine legal_end1 rfl HDW.out ((hb8.block D (by have := HDL.out; have := HGM.out; omega)).trans HKR.out) rfl rfl
                        (.inr ⟨HRR.out, .inr ⟨by rw [HXN.out]; exact HORD.out, .inr ⟨HANS.out, .inr ⟨HLATE.out, .inl ⟨q, by rw [HM.out]; exact hlt, HFB.out, HOK.out, rfl, rfl⟩⟩⟩⟩⟩) ?_
                      exact HBR2.out.trans (hb8.mono (by have := HB.out.size; have := HGM.out; omega))
                  · have hqi : ¬ (q : Int) < (m : Int) := by omega
                    have HALL : Hid (∀ j, j < os.length → fitAt xs os j = true) := Lib.hid (fun j hj => HOK.out j (by rw [HM.out] at hj; omega))
                    go_wp2_with fail
                    exact legal_end1 rfl HDW.out HKR.out rfl rfl (.inr ⟨HRR.out, .inr ⟨by rw [HXN.out]; exact HORD.out, .inr ⟨HANS.out, .inr ⟨HLATE.out, .inr ⟨HALL.out, rfl, rfl⟩⟩⟩⟩⟩) HBR2.out
              · have HI := Lib.hid hi0
                have H2 := Lib.hid hi2
                have H3 := Lib.hid hi3
                have H1 := Lib.hid hi1
                clear hi0 hi1 hi2 hi3
                have hnn : (0 : Int) ≤ (i : Int) := by omega
                go_wp2_with fail
                exact legal_end1 rfl HDW.out HK.out rfl rfl (.inr ⟨HRR.out, .inr ⟨by rw [HXN.out]; exact HORD.out, .inr ⟨HANS.out, .inl ⟨i, H1.out, H2.out, fun j hj => H3.out j (Nat.zero_le _) hj, rfl, rfl⟩⟩⟩⟩) HB.out
end Go.Proofs.Ytbnbeailbhnbdaa
