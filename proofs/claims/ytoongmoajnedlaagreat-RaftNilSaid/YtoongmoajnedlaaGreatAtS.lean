/-
  raft's log: the servers up to an index, where no entry holds any.
-/
import Derived.Test.YtoongmoajnedlaaGreatBackE
import Derived.Test.YtoongmoajnedlaaGreatRead
import Derived.Test.YtoongmoajnedlaaGreatVcA
set_option linter.unusedVariables false
set_option linter.unusedSimpArgs false
namespace Go.Proofs.YtoongmoajnedlaaGreat
open Go.RowKit
attribute [local go_sem] Oper.semAt_some

def four (t x kd : Int) (Ad : Option Addr) (nd cd : Nat) : List Value := [.int .i64 t, .int .i64 x, .int .i64 kd, .slice Ad nd cd]
/-- A range over entries from the end; behind the assignment the loop's variable lies in a new block. -/
theorem wp_rangeK {P : Program} (F : Nat → Int → Int → Int → Option Addr → Nat → Nat → Nat → Act) (ty : TypeId) {g : Operand} {ps : Array Tmp} {assign body : Code} {Q : Exit → Act → World → Prop} {a : Act} {w : World}
    {gf : Nat} {lb : Array Value} (hg : a.eval g = .func (.func gf) #[] lb) (eg : ∀ args w, (callFunc gf args).run P w = .ok (.enter gf args) w)
    {cells : List Value} {n : Nat} {Kb : Nat → Prop} {w0 : World} (hseq : SeqX P gf lb backXE (backX cells n) NoStep Kb w0)
    (hKb : ∀ b, Kb b → b < w.heap.size) (hb0 : Below w0.heap.size w0 w) (hps : ps.size = 2)
    (hsh : ∀ (k i : Nat) (cs : List Value), (backX cells n)[k]? = some (i, cs) → ∃ t x kd Ad nd cd, cs = four t x kd Ad nd cd)
    (I : Nat → World → Prop) (Ix : Code → Nat → World → Prop) (hI : OwnFrom w.heap.size I) (hIx : ∀ c, OwnFrom w.heap.size (Ix c)) (h0 : I 0 w)
    (hassign : ∀ (l k i : Nat) (t x kd : Int) (Ad : Option Addr) (nd cd : Nat) (W : World) (K : Act → World → Prop), (backX cells n)[k]? = some (i, four t x kd Ad nd cd) → I k W →
      (∀ bx W', KeepsFrom w.heap.size W W' → KeptOn Kb W W' → I k W' → W'.heap[bx]? = some (.cells #[.int .i64 t, .int .i64 x, .int .i64 kd, .slice Ad nd cd] ty (0, 0)) → w.heap.size ≤ bx → K (F i t x kd Ad nd cd bx) W') →
      assign.wpIn (Fence.wide.inRound l) 0 P (Exit.then K (fun _ _ _ => False)) { tmps := (ps.zip #[.int .i64 (i : Int), .agg #[.int .i64 t, .int .i64 x, .int .i64 kd, .slice Ad nd cd]]).foldl (fun t (p, v) => t.setIfInBounds p v) a.tmps, defers := [] } W)
    (hbody : ∀ (l k i : Nat) (t x kd : Int) (Ad : Option Addr) (nd cd : Nat) (bx : Nat) (W : World), (backX cells n)[k]? = some (i, four t x kd Ad nd cd) → I k W → W.heap[bx]? = some (.cells #[.int .i64 t, .int .i64 x, .int .i64 kd, .slice Ad nd cd] ty (0, 0)) → w.heap.size ≤ bx →
      body.wpIn (Fence.wide.inRound l) 0 P (roundX w.heap.size Kb I Ix k W) (F i t x kd Ad nd cd bx) W)
    (hdone : ∀ (D : Nat) (W : World), w.heap.size ≤ D → I (backX cells n).length W → W.heap[D]? = some (.deferred (some [])) → Q .normal { a with defers := { target := .collected D, args := #[] } :: a.defers } W)
    (hstop : ∀ (D : Nat) (c : Code) (k : Nat) (W : World), w.heap.size ≤ D → k ≤ (backX cells n).length → Ix c k W → W.heap[D]? = some (.deferred (some [])) → c.wpIn Fence.wide 0 P Q { a with defers := { target := .collected D, args := #[] } :: a.defers } W) :
    (Code.rangeFunc g ps assign body).wpIn Fence.wide 0 P Q a w := by
  refine wp_rangeX hg eg hseq (fun A B k o h => h.elim) hKb hb0 (fun k x args W h => by rw [h, hps]; rfl) I Ix hI hIx (fun k A B h h' => h'.elim) (fun c k A B h h' => h'.elim) h0
    (fun k a' W => ∃ i t x kd Ad nd cd bx, (backX cells n)[k]? = some (i, four t x kd Ad nd cd) ∧ a' = F i t x kd Ad nd cd bx ∧ W.heap[bx]? = some (.cells #[.int .i64 t, .int .i64 x, .int .i64 kd, .slice Ad nd cd] ty (0, 0)) ∧ w.heap.size ≤ bx) ?_ ?_ ?_ hdone hstop
  · rintro k a' ⟨⟩ A B row ⟨i, t, x, kd, Ad, nd, cd, bx, h1, h2, h3, h4⟩ hg hr
    refine ⟨i, t, x, kd, Ad, nd, cd, bx, h1, h2, (hg.block bx (Array.getElem?_eq_some_iff.1 h3).1 (fun e => ?_)).trans h3, h4⟩
    obtain ⟨_, o, ho, hc⟩ := hr bx e.symm
    rw [h3] at ho
    cases ho
    cases hc
  · rintro l k ⟨i, cs⟩ args W K hx rfl hi hK
    obtain ⟨t, x, kd, Ad, nd, cd, rfl⟩ := hsh k i cs hx
    exact hassign l k i t x kd Ad nd cd W K hx hi (fun bx W' h1 h2 h3 h4 h5 => hK _ _ h1 h2 h3 ⟨i, t, x, kd, Ad, nd, cd, bx, hx, rfl, h4, h5⟩)
  · rintro l k ⟨i, cs⟩ a' W hx hi ⟨i', t, x, kd, Ad, nd, cd, bx, hx', rfl, h3, h4⟩
    rw [hx] at hx'
    cases hx'
    exact hbody l k i t x kd Ad nd cd bx W hx hi h3 h4
/-- No entry up to i holds servers. -/
def HeadE (i : Int) (cells : List Value) (n : Nat) : Prop := ∀ k, k < n → ∃ (t x kd : Int) (Ad : Option Addr) (nd cd : Nat), fourAt cells k = four t x kd Ad nd cd ∧ (x ≤ i → kd ≠ 3)
theorem head_at {i : Int} {cells : List Value} {n j k : Nat} {cs : List Value} (h : HeadE i cells n) (hx : (backX cells n)[j]? = some (k, cs)) : ∃ (t x kd : Int) (Ad : Option Addr) (nd cd : Nat), cs = four t x kd Ad nd cd ∧ (x ≤ i → kd ≠ 3) := by
  have hj := (List.getElem?_eq_some_iff.1 hx).1
  rw [backX_length] at hj
  rw [backX_get hj] at hx
  cases hx
  exact h _ (by omega)
theorem run_loadVar_one {P : Program} {w : World} {p : Addr} {ty : TypeId} {v : Value} {d : TypeDesc} (hc : w.cell? p = some v) (hu : P.underlying ty = some d) (hd : (match d with | .struct _ | .array _ _ => true | _ => false) = false) : (loadVar ty p).run P w = .ok v w := by
  have hagg : (isAgg ty).run P w = .ok false w := by
    unfold isAgg
    rw [Sem.run_bind, run_underlying hu w]
    cases d <;> simp_all
  simp [loadVar, Sem.run_bind, hagg, hc]
theorem ret_cellD {P : Program} {R : Ending → World → Prop} {W : World} {fn : Func} {t : Nat} {ty : TypeId} {b : Nat} {d : TypeDesc} (hfn : fn.results = #[.cell t ty]) {tm : Array Value} {v : Value} {D : Nat} (hd : W.heap[D]? = some (.deferred (some []))) (h2 : tm.getD t undef = .pointer (some ⟨b, 0, none⟩))
    (hu : P.underlying ty = some d) (hp : (match d with | .struct _ | .array _ _ => true | _ => false) = false) (hc : (W.putObj D (.deferred none)).cell? ⟨b, 0, none⟩ = some v) (h : R (.returned v) (W.putObj D (.deferred none))) :
    bodyPostM Fence.wide 0 P fn R .ret { tmps := tm, defers := [{ target := .collected D, args := #[] }] } W := by
  refine ⟨by simp, .inl ⟨_, _, rfl, run_takeDeferred hd, ?_⟩⟩
  refine ⟨v, ?_, h⟩
  have h2' : tm[t]?.getD undef = .pointer (some ⟨b, 0, none⟩) := by simpa using h2
  simp [results, hfn, h2', asAddr, run_loadVar_one hc hu hp]
set_option maxRecDepth 16384 in
set_option maxHeartbeats 4000000 in
theorem serversAt_none (r n c d : Nat) (A B : Option Addr) (cells : List Value) (is : List Int) (i : Int) (w : World) (hn : n ≤ 140737488355328) (hlen : cells.length = n * 4) (hA : Sees w A cells) (hH : HeadE i cells n)
    (h7 : w.cell? ⟨r, 7, none⟩ = some (.slice A n c)) (h9 : w.cell? ⟨r, 9, none⟩ = some (.slice B is.length d)) (hd : is.length ≤ d) (hl : is.length * 8 ≤ 140737488355328) (hB : Sees w B (is.map i64v)) :
    Calls Tryz.prog 58 #[.pointer (some ⟨r, 5, none⟩), .int .i64 i] w (C.RetInts w is.length is) := by
  obtain ⟨W1, hW1⟩ : ∃ W1, w.alloc (.cells #[.int .i64 i] 3) = W1 := ⟨_, rfl⟩
  obtain ⟨W2, hW2⟩ : ∃ W2, W1.alloc (.cells #[.slice none 0 0] 23) = W2 := ⟨_, rfl⟩
  obtain ⟨gb, hgb⟩ : ∃ gb, w.heap.size = gb := ⟨_, rfl⟩
  have hz1 : W1.heap.size = gb + 1 := by rw [← hW1, ← hgb]; simp
  have hz2 : W2.heap.size = gb + 2 := by rw [← hW2, World.size_alloc, hz1]
  have hb1 : Below w.heap.size w W1 := by rw [← hW1]; exact (Below.refl _ _).alloc (Nat.le_refl _) _
  have hb2 : Below W1.heap.size W1 W2 := by rw [← hW2]; exact (Below.refl _ _).alloc (Nat.le_refl _) _
  have hbw : Below w.heap.size w W2 := below_step hb1 hb1.size hb2
  have x1 : Box W1 gb 3 (.int .i64 i) := by rw [← hW1, ← hgb]; exact Box.new _ _ _
  have x2 : Box W2 (gb + 1) 23 (.slice none 0 0) := by rw [← hW2, ← hz1]; exact Box.new _ _ _
  have x1' : Box W2 gb 3 (.int .i64 i) := x1.below hb2 x1.lt
  have k7 := (hbw.cell (World.block_lt_of_cell? _ _ h7)).trans h7
  have HW1 := Lib.hid hW1
  have HW2 := Lib.hid hW2
  have HGB := Lib.hid hgb
  have HZ1 := Lib.hid hz1
  have HZ2 := Lib.hid hz2
  have HBW := Lib.hid hbw
  have HX1 := Lib.hid x1'
  have HX2 := Lib.hid x2
  have HH := Lib.hid hH
  have HA := Lib.hid hA
  have HB := Lib.hid hB
  have HLEN := Lib.hid hlen
  have H9 := Lib.hid h9
  have hd1 := hd
  have HD := Lib.hid hd
  clear hW1 hW2 hgb hz1 hz2 hb1 hb2 hbw x1 x2 x1' hH hA hB hlen h9 h7 hd hd1
  refine enter_marks Tryz.func58 rfl ?_
  simp only [Tryz.ntmps58, List.size_toArray, List.length_cons, List.length_nil, Nat.reduceAdd, Nat.reduceSub, Array.replicate_succ, Array.replicate_zero, List.push_toArray, List.append_toArray, List.nil_append, List.cons_append]
  go_upto_region 1 with fail
  rw [HW1.out]
  rw [HW2.out]
  rw [HGB.out]
  try rw [HZ1.out]
  go_wp2_with (first
    | (go_at_call 124; refine (backE_any _ rfl _).mono ?_; rintro e5 w3 ⟨rfl, hw3⟩)
    | fail)
  rw [HZ2.out]
  have hz3 : w3.heap.size = gb + 3 := by rw [← hw3, World.size_alloc, HZ2.out]
  have hb3 : Below W2.heap.size W2 w3 := by rw [← hw3]; exact (Below.refl _ _).alloc (Nat.le_refl _) _
  have hbw3 : Below w.heap.size w w3 := below_step HBW.out HBW.out.size hb3
  have y1 : Box w3 gb 3 (.int .i64 i) := HX1.out.below hb3 HX1.out.lt
  have y2 : Box w3 (gb + 1) 23 (.slice none 0 0) := HX2.out.below hb3 HX2.out.lt
  have y3 : w3.cell? ⟨gb + 2, 0, none⟩ = some (.slice A n c) := by rw [← hw3, ← HZ2.out]; exact (Box.new W2 28 (.slice A n c)).cell
  have hsee : OrdSeeE (fun b => b < gb + 3) (gb + 2) A n c cells w3 := ⟨y3, HLEN.out, HA.out.below hbw3, by omega, fun h0 ad e => by
    subst e
    obtain ⟨ad', e', hc⟩ := HA.out 0 _ (List.getElem?_eq_getElem (by have := HLEN.out; omega))
    cases e'
    have := World.block_lt_of_cell? _ _ hc
    rw [add_blk] at this
    have := HGB.out
    omega⟩
  have HSQ := Lib.hid (backE_seq (fun b => b < gb + 3) (gb + 2) A n c cells w3 hsee hn)
  have HY1 := Lib.hid y1
  have HY2 := Lib.hid y2
  have HB3 := Lib.hid hbw3
  have HZ3 := Lib.hid hz3
  clear hw3 hz3 hb3 hbw3 y1 y2 y3 hsee k7
  refine (wpIn_wide (n := 0)).1 ?_
  refine wp_rangeK ?F 110 (w0 := w3) rfl (fun args w => by kernel_rfl) HSQ.out ?hKb (Below.refl _ _) rfl ?hsh (fun j W => Below w3.heap.size w3 W) (fun _ _ _ => False) ?hI ?hIx ?h0 ?hassign ?hbody ?hdone ?hstop
  case hKb => exact fun b h => by rw [HZ3.out]; exact h
  case hI => exact fun j X Y row h hg hr => h.grown hg h.size (fun r e => (hr r e).1)
  case hIx => exact fun c j X Y row h hg hr => h.elim
  case h0 => exact Below.refl _ _
  case hstop => exact fun D c k W hD hk h => h.elim
  case hsh =>
    intro k j cs hx
    obtain ⟨t, x, kd, Ad, nd, cd, e, _⟩ := head_at HH.out hx
    exact ⟨t, x, kd, Ad, nd, cd, e⟩
  case hassign =>
    rintro ll j k t x kd Ad nd cd W K hx hi hK
    gi_wp2
    have hsz := hi.size
    obtain ⟨bx, hbx⟩ : ∃ bx, W.heap.size = bx := ⟨_, rfl⟩
    have hnew := heap_alloc_new W (.cells #[.int .i64 t, .int .i64 x, .int .i64 kd, .slice Ad nd cd] 110)
    rw [hbx] at hnew ⊢
    exact hK bx _ ((KeepsOthers.alloc W _).from _) (KeptOn.alloc _ (fun b h => by have := HZ3.out; omega)) (hi.alloc hi.size _) hnew (by rw [← hbx]; exact hi.size)
  case hbody =>
    rintro ll j k t x kd Ad nd cd bx W hx hi hbx hlb
    have hkd : x ≤ i → kd ≠ 3 := by
      obtain ⟨_, _, _, _, _, _, e, h⟩ := head_at HH.out hx
      cases e
      exact h
    have e0 := cell_of_row W bx 0 _ _ _ hbx
    have e1 := cell_of_row W bx 1 _ _ _ hbx
    have e2 := cell_of_row W bx 2 _ _ _ hbx
    have e3 := cell_of_row W bx 3 _ _ _ hbx
    simp at e0 e1 e2 e3
    have g1 := (HY1.out.below hi HY1.out.lt).cell
    have HI := Lib.hid hi
    have HKD := Lib.hid hkd
    clear hi hkd hbx hx
    by_cases hxi : x ≤ i
    · have hk3 : (kd == 3) = false := by simpa using HKD.out hxi
      gi_wp2
      exact ⟨KeepsFrom.refl _ _, KeptOn.refl _ _, HI.out⟩
    · gi_wp2
      exact ⟨KeepsFrom.refl _ _, KeptOn.refl _ _, HI.out⟩
  case hdone =>
    rintro D W hD hi hK
    have hbW : Below w.heap.size w W := below_step HB3.out HB3.out.size hi
    have k9 := (hbW.cell (World.block_lt_of_cell? _ _ H9.out)).trans H9.out
    have z2 := (HY2.out.below hi HY2.out.lt)
    have HBW2 := Lib.hid hbW
    have HI := Lib.hid hi
    have HK := Lib.hid hK
    have HC := Lib.hid (C.clone_ints B is d W HD.out hl (HB.out.below hbW))
    have HZW := Lib.hid z2
    clear hi hK hbW z2
    go_wp2_with (first
      | (go_at_call 86; refine HC.out.mono ?_; rintro e6 w6 ⟨A9, c9, rfl, hown9, hb9⟩; have z3 := HZW.out.below hb9 HZW.out.lt; have z4 := z3.cell; have z5 := z3.frozen; have HB9 := Lib.hid hb9; have HOWN9 := Lib.hid hown9; have HZ9 := Lib.hid z3; clear hown9 hb9 z3)
      | fail)
    have hd6 : (w6.setCell ⟨gb + 1, 0, none⟩ (.slice A9 is.length c9)).heap[D]? = some (.deferred (some [])) := by
      rw [Below.heap_setCell _ _ _ _ (show D ≠ gb + 1 by have := HZ3.out; omega)]
      exact (HB9.out.block D (Array.getElem?_eq_some_iff.1 HK.out).1).trans HK.out
    have hlt : gb + 1 < W.heap.size := HZW.out.lt
    have hb7 : Below w.heap.size w (w6.setCell ⟨gb + 1, 0, none⟩ (.slice A9 is.length c9)) := (below_step HBW2.out HBW2.out.size HB9.out).setCell (p := ⟨gb + 1, 0, none⟩) (show w.heap.size ≤ gb + 1 by have := HGB.out; omega) _
    have hm : Mild w.heap.size (gb + 1) (w6.setCell ⟨gb + 1, 0, none⟩ (.slice A9 is.length c9)) ((w6.setCell ⟨gb + 1, 0, none⟩ (.slice A9 is.length c9)).putObj D (.deferred none)) := Mild.of_grown (grownBy_putObj' _ D _) (fun r e => by cases e; exact ⟨by have := HZ3.out; have := HGB.out; omega, _, hd6, rfl⟩)
    refine ret_cellD (b := gb + 1) (v := .slice A9 is.length c9) rfl hd6 rfl Tryz.underlying23 rfl ?_ ?_
    · rw [World.cell?_of_block (World.putObj_heap_other (by have := HZ3.out; show gb + 1 ≠ D; omega))]
      exact (HZ9.out.set _).cell
    · exact ⟨A9, c9, rfl, own_lower (hm.own (ownsRow_setCell_below HOWN9.out (by show gb + 1 < _; omega) _) hlt) (by have := HBW2.out.size; omega), hm.below hb7 (Nat.le_refl _)⟩
end Go.Proofs.YtoongmoajnedlaaGreat
