/-
  The program's From (at most eight), by the iterator behind.
-/
import Derived.Test.YtoongmoajnedlaaGreatSeqE
set_option linter.unusedVariables false
set_option linter.unusedSimpArgs false
namespace Go.Proofs.YtoongmoajnedlaaGreat
open Go.RowKit
attribute [local go_sem] Oper.semAt_some

noncomputable def fromL (v : Vw) (i : Int) : List Ent := if rightV v then (v.l.filter fun x => decide (i ≤ x.index)).take 4096 else []
theorem wpListIn_append_sees {F : Fence} {n' : Nat} {P : Program} {ops : Array Oper} {rest : List Oper} {o : Oper} {a : Act} {Q : Exit → Act → World → Prop} {w : World} (hgd : o.guard = none) (s x : Operand) (t : TypeId)
    (ho : o.op = .call { callee := .builtin .append, args := #[s, x], argTypes := #[t, t] }) (base : Nat) (e : TypeId) (z : Value) (size bytes : Nat) (ht : P.underlying t = some (.slice e))
    (hinfo : (P.info? e).map (fun i => (i.zero, i.size, i.bytes)) = some (some z, size, bytes)) (hzs : z.cells.size = size) (hsz : 0 < size)
    (v : Value) (n : Nat) (xs : List Value) (hs : a.eval s = v) (hown : w.ownsRow base e size v n xs)
    (A : Option Addr) (m c : Nat) (news : List Value) (hx : a.eval x = .slice A m c) (hl : news.length = m * size) (hnews : Sees w A news) (h1 : ∀ u ∈ news, u.oneCell' = true)
    (h63 : n + m ≤ maxLen) (hbytes : (n + m) * bytes ≤ 140737488355328) (hbase : base ≤ w.heap.size)
    (h : ∀ A' c' w', w'.ownsRow base e size (.slice A' (n + m) c') (n + m) (xs ++ news) → w.grownBy w' v.ownBlock → ((Value.slice A' (n + m) c').ownBlock = v.ownBlock ∨ (Value.slice A' (n + m) c').ownBlock = some w.heap.size) →
      wpListIn F n' P ops Q rest (a.put o.dst (.slice A' (n + m) c')) w') : wpListIn F n' P ops Q (o :: rest) a w := by
  refine wpListIn_plain hgd fun K hK => ?_
  obtain ⟨A', c', w', hr, h2, h3, h4⟩ := run_append_sees (P := P) w base t o.type e z size bytes ht hinfo hzs hsz v n xs hown A m c news hl hnews h1 h63 hbytes hbase
  unfold Oper.wpIn
  refine ⟨?_, ?_⟩
  · simp [Oper.about, ho, resolve, Target.leads, Sem.run_pure]
  · rw [Oper.semAt_plain F _ _ (by rw [ho]; intro c hc'; cases hc')]
    simp [execOp, ho, resolve, invoke, builtin, hs, hx, hr, Result.andThen]
    exact hK _ _ (h A' c' w' h2 h3 h4)
theorem Box.alloc {w : World} {B : Nat} {t : TypeId} {v : Value} (h : Box w B t v) (o : Obj) : Box (w.alloc o) B t v := (Below.heap_alloc w o B h.lt).trans h
theorem Box.grown {w w1 : World} {B : Nat} {t : TypeId} {v : Value} {row : Option Nat} (h : Box w B t v) (hg : w.grownBy w1 row) (hne : ∀ r, row = some r → r ≠ B) : Box w1 B t v :=
  (hg.block B h.lt (fun e => hne B e.symm rfl)).trans h
theorem ownE_cells {w : World} {b s n : Nat} {e : TypeId} {v : Value} {xs : List Value} (h : w.ownsRow b e s v n xs) : ∀ (j : Nat) (o : Obj), v.ownBlock = some j → w.heap[j]? = some o → o.isCells = true := by
  intro j o hj ho
  rcases h.2 with ⟨rfl, _⟩ | ⟨g, cap, cur, rfl, _, hh, _⟩
  · simp [Value.ownBlock] at hj
  · have : g = j := by simpa [Value.ownBlock] using hj
    subst this
    rw [hh] at ho
    cases ho
    rfl
theorem OwnsE.mild {base n m X : Nat} {v : Value} {es : List Ent} {A B : World} (h : OwnsE base v n es A) (hm : Mild m X A B) (hX : X < base) : OwnsE base v n es B := by
  obtain ⟨cells, h1, h2⟩ := h
  exact ⟨cells, hm.own h1 hX, h2.imp fun j x cs _ hl => by
    obtain ⟨A', c', e, ho⟩ := hl
    exact ⟨A', c', e, hm.own ho hX⟩⟩
/-- Four cells of an entry in a block. -/
def EntAt (W : World) (g : Nat) (x : Ent) (d : Value) : Prop := W.heap[g]? = some (.cells #[.int .i64 x.term, .int .i64 x.index, .int .i64 x.kind, d] 110 (0, 0))
theorem box_ent_at (x : Ent) (d : Value) (w : World) : EntAt ((w.alloc (.cells zeros4 110)).setCells w.heap.size 0 (x.cells d)) w.heap.size x d := by
  unfold EntAt
  have h0 : (w.alloc (.cells zeros4 110)).heap[w.heap.size]? = some (.cells zeros4 110 (0, 0)) := heap_alloc_new w _
  obtain ⟨w1, hw1⟩ : ∃ w1, w.alloc (.cells zeros4 110) = w1 := ⟨_, rfl⟩
  rw [hw1] at h0 ⊢
  simp [World.setCells, Ent.cells, World.setCell, Array.getElem?_modify, h0, zeros4]
/-- Between two rounds: what has come so far lies in a row of its own, told by block bo. -/
def coI (n bn bo n0 : Nat) (xs : List Ent) (w : World) (k : Nat) (W : World) : Prop :=
  ∃ A c, Box W bo 28 (.slice A k c) ∧ Box W bn 3 (.int .i64 4096) ∧ OwnsE n0 (.slice A k c) k (xs.take k) W ∧ Below n w W ∧ n0 ≤ W.heap.size ∧ k ≤ 4096 ∧ k ≤ xs.length
theorem coI_mild {n bn bo n0 X : Nat} {xs : List Ent} {w : World} {k : Nat} {A B : World} (hn : n ≤ w.heap.size) (hX : X < n0) (h1 : bn ≠ X) (h2 : bo ≠ X) (h : coI n bn bo n0 xs w k A) (hm : Mild n X A B) : coI n bn bo n0 xs w k B := by
  obtain ⟨A1, c, b1, b2, ho, hb, hs, hk, hkx⟩ := h
  exact ⟨A1, c, hm.box b1 h2, hm.box b2 h1, ho.mild hm hX, hm.below hb hn, Nat.le_trans hs hm.size, hk, hkx⟩
/-- A range over entries that come in memory of their own, without a break; behind the assignment the loop's variable lies in a new block. -/
theorem wp_rangeE {P : Program} (F : Option Addr → Nat → Ent → Nat → Act) {g : Operand} {ps : Array Tmp} {assign body : Code} {Q : Exit → Act → World → Prop} {a : Act} {w : World}
    {gf : Nat} {lb : Array Value} (hg : a.eval g = .func (.func gf) #[] lb) (eg : ∀ args w, (callFunc gf args).run P w = .ok (.enter gf args) w)
    {xs : List Ent} {Kb : Nat → Prop} {w0 : World} {n0 n X : Nat} (hseq : SeqX P gf lb (entEnc n0) xs NoStep Kb w0)
    (hKb : ∀ b, Kb b → b < w.heap.size) (hb0 : Below w0.heap.size w0 w) (hps : ∀ k x args W, entEnc n0 k x args W → args.size = ps.size) (hX : X < n0) (hn : n ≤ w.heap.size)
    (I : Nat → World → Prop) (hI : ∀ j A B, Mild n X A B → I j A → I j B) (h0 : I 0 w)
    (hassign : ∀ (l k : Nat) (x : Ent) (A3 : Option Addr) (c3 : Nat) (W : World) (K : Act → World → Prop), xs[k]? = some x → W.ownsRow n0 5 1 (.slice A3 x.data.length c3) x.data.length (u8s x.data) → I k W →
      (∀ bx W', KeepsFrom w.heap.size W W' → KeptOn Kb W W' → I k W' → EntAt W' bx x (.slice A3 x.data.length c3) → W'.ownsRow n0 5 1 (.slice A3 x.data.length c3) x.data.length (u8s x.data) → n0 ≤ bx → K (F A3 c3 x bx) W') →
      assign.wpIn (Fence.wide.inRound l) 0 P (Exit.then K (fun _ _ _ => False)) { tmps := (ps.zip #[x.val (.slice A3 x.data.length c3)]).foldl (fun t (p, v) => t.setIfInBounds p v) a.tmps, defers := [] } W)
    (hbody : ∀ (l k : Nat) (x : Ent) (A3 : Option Addr) (c3 bx : Nat) (W : World), xs[k]? = some x → I k W → EntAt W bx x (.slice A3 x.data.length c3) → W.ownsRow n0 5 1 (.slice A3 x.data.length c3) x.data.length (u8s x.data) → n0 ≤ bx →
      body.wpIn (Fence.wide.inRound l) 0 P (roundX w.heap.size Kb I (fun _ _ _ => False) k W) (F A3 c3 x bx) W)
    (hdone : ∀ (D : Nat) (W : World), w.heap.size ≤ D → I xs.length W → W.heap[D]? = some (.deferred (some [])) → Q .normal { a with defers := { target := .collected D, args := #[] } :: a.defers } W) :
    (Code.rangeFunc g ps assign body).wpIn Fence.wide 0 P Q a w := by
  have hm : ∀ {A B : World} {row : Option Nat}, A.grownBy B row → (∀ r, row = some r → w.heap.size ≤ r ∧ ∃ o : Obj, A.heap[r]? = some o ∧ o.isCells = false) → Mild n X A B := fun hg hr => Mild.of_grown hg (fun r e => ⟨Nat.le_trans hn (hr r e).1, (hr r e).2⟩)
  refine wp_rangeX hg eg hseq (fun A B k o h => h.elim) hKb hb0 hps I (fun _ _ _ => False) (fun j A B row h hg hr => hI j A B (hm hg hr) h) (fun _ _ _ _ _ h _ _ => h) (fun k A B h h' => h'.elim) (fun _ _ _ _ h _ => h) h0
    (fun j a' W => ∃ A3 c3 x bx, xs[j]? = some x ∧ a' = F A3 c3 x bx ∧ EntAt W bx x (.slice A3 x.data.length c3) ∧ W.ownsRow n0 5 1 (.slice A3 x.data.length c3) x.data.length (u8s x.data) ∧ n0 ≤ bx) ?_ ?_ ?_ hdone (fun D c k W hD hk h => h.elim)
  · rintro j a' ⟨⟩ A B row ⟨A3, c3, x, bx, h1, h2, h3, h4, h5⟩ hg hr
    have h6 := hm hg hr
    exact ⟨A3, c3, x, bx, h1, h2, h6.cells bx _ h3 rfl (by omega), h6.own h4 hX, h5⟩
  · rintro l k x args W K hx ⟨A3, c3, rfl, hown⟩ hi hK
    exact hassign l k x A3 c3 W K hx hown hi (fun bx W' h1 h2 h3 h4 h5 h6 => hK _ _ h1 h2 h3 ⟨A3, c3, x, bx, hx, rfl, h4, h5, h6⟩)
  · rintro l k x a' W hx hi ⟨A3, c3, x', bx, hx', rfl, h3, h4, h5⟩
    rw [hx] at hx'
    cases hx'
    exact hbody l k x A3 c3 bx W hx hi h3 h4 h5
theorem ret_end {R : Ending → World → Prop} {W : World} {fn : Func} {t : Nat} (hfn : fn.results = #[.tmp t]) {tm : Array Value} {v : Value} (h2 : tm.getD t undef = v) (h : R (.returned v) W) :
    bodyPostM Fence.wide 0 Tryz.prog fn R .ret { tmps := tm, defers := [] } W :=
  ⟨v, by rw [results_tmp hfn, h2], h⟩
theorem ret_end1 {R : Ending → World → Prop} {W : World} {fn : Func} {t : Nat} (hfn : fn.results = #[.tmp t]) {tm : Array Value} {v : Value} {D : Nat} (hd : W.heap[D]? = some (.deferred (some []))) (h2 : tm.getD t undef = v) (h : R (.returned v) (W.putObj D (.deferred none))) :
    bodyPostM Fence.wide 0 Tryz.prog fn R .ret { tmps := tm, defers := [{ target := .collected D, args := #[] }] } W := by
  refine ⟨by simp, .inl ⟨_, _, rfl, run_takeDeferred hd, ?_⟩⟩
  exact ⟨v, by rw [results_tmp hfn, h2], h⟩
def RetFromP (v : Vw) (i : Int) (w : World) (e : Ending) (w' : World) : Prop := ∃ A n c, e = .returned (.slice A n c) ∧ OwnsE w.heap.size (.slice A n c) n (fromL v i) w' ∧ Below w.heap.size w w'
def frF (gb b1 : Nat) (i : Int) (v : Vw) (x : Ent) (A : Option Addr) (n c : Nat) (A3 : Option Addr) (c3 bx : Nat) : Act := {
      tmps :=
        #[Value.agg #[Value.int IntKind.i64 v.base, Value.int IntKind.i64 v.term, Value.slice A n c],
          Value.int IntKind.i64 i, Value.int IntKind.i64 4096, Value.pointer (some { block := gb, off := 0 }), undef,
          Value.pointer (some { block := gb + 1, off := 0 }), Value.slice none 0 0,
          Value.pointer (some { block := gb + 2, off := 0 }), Value.pointer (some { block := bx, off := 0 }),
          Value.agg #[Value.int IntKind.i64 v.base, Value.int IntKind.i64 v.term, Value.slice A n c], Value.bool true,
          Value.pointer (some { block := gb, off := 2 }), Value.slice A n c, Value.int IntKind.i64 i,
          Value.func (Fn.func 170) #[]
            #[Value.pointer (some { block := b1, off := 0 }), Value.pointer (some { block := b1 + 1, off := 0 })],
          Value.agg
            #[Value.int IntKind.i64 x.term, Value.int IntKind.i64 x.index, Value.int IntKind.i64 x.kind,
              Value.slice A3 x.data.length c3],
          undef, undef, undef, undef, undef, undef, undef, undef, undef],
      defers := [] }
set_option maxRecDepth 16384 in
set_option maxHeartbeats 8000000 in
theorem from_any (v : Vw) (i : Int) (A : Option Addr) (n c : Nat) (w : World) (hn : v.l.length = n) (hn2 : n * 48 ≤ 140737488351232) (h : SeenE w A v.l) (hs : SmallE v.l) :
    Calls Tryz.prog 77 #[v.val (.slice A n c), .int .i64 i, .int .i64 4096] w (RetFromP v i w) := by
  obtain ⟨W0, hW0⟩ : ∃ W0, w.alloc (.cells #[.int .i64 v.base, .int .i64 v.term, .slice A n c] 48) = W0 := ⟨_, rfl⟩
  obtain ⟨W1, hW1⟩ : ∃ W1, W0.alloc (.cells #[.int .i64 4096] 3) = W1 := ⟨_, rfl⟩
  obtain ⟨W, hW⟩ : ∃ W, W1.alloc (.cells #[.slice none 0 0] 28) = W := ⟨_, rfl⟩
  have hz0 : W0.heap.size = w.heap.size + 1 := by rw [← hW0]; simp
  have hz1 : W1.heap.size = w.heap.size + 2 := by rw [← hW1, World.size_alloc, hz0]
  have hz : W.heap.size = w.heap.size + 3 := by rw [← hW, World.size_alloc, hz1]
  have hb0 : Below w.heap.size w W0 := by rw [← hW0]; exact (Below.refl _ _).alloc (Nat.le_refl _) _
  have hb1 : Below W0.heap.size W0 W1 := by rw [← hW1]; exact (Below.refl _ _).alloc (Nat.le_refl _) _
  have hb2 : Below W1.heap.size W1 W := by rw [← hW]; exact (Below.refl _ _).alloc (Nat.le_refl _) _
  have hb : Below w.heap.size w W := below_step (below_step hb0 hb0.size hb1) (by omega) hb2
  have hr0 : W0.heap[w.heap.size]? = some (.cells #[.int .i64 v.base, .int .i64 v.term, .slice A n c] 48 (0, 0)) := by rw [← hW0]; exact heap_alloc_new w _
  have hr : W.heap[w.heap.size]? = some (.cells #[.int .i64 v.base, .int .i64 v.term, .slice A n c] 48 (0, 0)) := (hb2.block _ (by omega)).trans ((hb1.block _ (by omega)).trans hr0)
  have x1 : Box W (w.heap.size + 1) 3 (.int .i64 4096) := by
    have h9 : Box W1 W0.heap.size 3 (.int .i64 4096) := by rw [← hW1]; exact Box.new _ _ _
    rw [hz0] at h9
    exact h9.below hb2 (by omega)
  have x2 : Box W (w.heap.size + 2) 28 (.slice none 0 0) := by
    have h9 : Box W W1.heap.size 28 (.slice none 0 0) := by rw [← hW]; exact Box.new _ _ _
    rwa [hz1] at h9
  have HRT := Lib.hid (rightv_any v A n c W hn (by omega) (h.below hb) hs)
  obtain ⟨r, hrr⟩ : ∃ r, rightV v = r := ⟨_, rfl⟩
  rw [hrr] at HRT
  have HRR := Lib.hid hrr
  have HN := Lib.hid hn
  have HS := Lib.hid hs
  have H := Lib.hid h
  have HB := Lib.hid hb
  have HZ := Lib.hid hz
  have HROW := Lib.hid hr
  have HX1 := Lib.hid x1
  have HX2 := Lib.hid x2
  have HW0 := Lib.hid hW0
  have HW1 := Lib.hid hW1
  have HW := Lib.hid hW
  have HZ0 := Lib.hid hz0
  have HZ1 := Lib.hid hz1
  have HK : Hid (∀ W', Below W.heap.size W W' → W'.cell? ⟨w.heap.size, 0, none⟩ = some (.int .i64 v.base) ∧ W'.cell? ⟨w.heap.size, 1, none⟩ = some (.int .i64 v.term) ∧ W'.cell? ⟨w.heap.size, 2, none⟩ = some (.slice A n c)) := Lib.hid (fun W' hb' => by
    have h9 := (hb'.block w.heap.size (Array.getElem?_eq_some_iff.1 hr).1).trans hr
    exact ⟨by rw [cell_of_row _ _ 0 _ _ _ h9]; rfl, by rw [cell_of_row _ _ 1 _ _ _ h9]; rfl, by rw [cell_of_row _ _ 2 _ _ _ h9]; rfl⟩)
  obtain ⟨k0, k1, k2⟩ := HK.out W (Below.refl _ _)
  clear hW0 hW1 hW hz0 hz1 hz hb0 hb1 hb2 hb hr0 hr x1 x2 hrr hn hs h
  unfold Vw.val at HRT ⊢
  obtain ⟨gb, hgb⟩ : ∃ gb, w.heap.size = gb := ⟨_, rfl⟩
  rw [hgb] at k0 k1 k2
  refine enter_marks Tryz.func77 rfl ?_
  simp only [Tryz.ntmps77, List.size_toArray, List.length_cons, List.length_nil, Nat.reduceAdd, Nat.reduceSub, Array.replicate_succ, Array.replicate_zero, List.push_toArray, List.append_toArray, List.nil_append, List.cons_append]
  go_upto_region 2 with fail
  rw [HW0.out]
  rw [HW1.out]
  rw [HW.out]
  rw [show gb + 1 + 1 = gb + 2 from rfl]
  cases r with
  | false =>
    have HF : Hid (fromL v i = []) := Lib.hid (by unfold fromL; rw [HRR.out]; rfl)
    go_upto_region 7 with (first
      | (go_at_call 18; refine HRT.out.mono ?_; rintro e w2 ⟨rfl, hb2⟩; have HL := Lib.hid hb2; have c2 := (hb2.cell (World.block_lt_of_cell? _ _ HX2.out.cell)).trans HX2.out.cell; rw [hgb] at c2; clear hb2)
      | fail)
    go_wp2_with fail
    refine ret_end rfl rfl ?_
    exact ⟨none, 0, 0, rfl, by rw [HF.out]; exact OwnsE.nil _ _, below_step HB.out HB.out.size HL.out⟩
  | true =>
    go_wp2_with (first
      | (go_at_call 18; refine HRT.out.mono ?_; rintro e w2 ⟨rfl, hb2⟩; have HL := Lib.hid hb2; obtain ⟨c0, c1, c2⟩ := HK.out w2 hb2; rw [hgb] at c0 c1 c2; clear hb2)
      | (go_at_call 142; refine (behind_any _ rfl _ _).mono ?_; rintro e5 w3 ⟨rfl, hw3⟩)
      | fail)
    obtain ⟨b1, hb1⟩ : ∃ b1, w2.heap.size = b1 := ⟨_, rfl⟩
    have hg1 : gb + 3 ≤ b1 := by have := HL.out.size; have := HZ.out; omega
    have hz3 : w3.heap.size = b1 + 2 := by rw [← hw3, World.size_alloc, World.size_alloc, hb1]
    have hb3 : Below w2.heap.size w2 w3 := by rw [← hw3]; exact ((Below.refl _ _).alloc (Nat.le_refl _) _).alloc (by simp) _
    have hbw : Below w.heap.size w w3 := below_step (below_step HB.out HB.out.size HL.out) (Nat.le_trans HB.out.size HL.out.size) hb3
    have x1 : Box w3 (gb + 1) 3 (.int .i64 4096) := by rw [← hgb]; exact (HX1.out.below HL.out HX1.out.lt).below hb3 (Nat.lt_of_lt_of_le HX1.out.lt HL.out.size)
    have x2 : Box w3 (gb + 2) 28 (.slice none 0 0) := by rw [← hgb]; exact (HX2.out.below HL.out HX2.out.lt).below hb3 (Nat.lt_of_lt_of_le HX2.out.lt HL.out.size)
    have y1 : w3.cell? ⟨b1, 0, none⟩ = some (.slice A n c) := by
      rw [← hw3, ← hb1]
      exact ((Box.new w2 28 (.slice A n c)).alloc (.cells #[.int .i64 i] 3)).cell
    have y2 : w3.cell? ⟨b1 + 1, 0, none⟩ = some (.int .i64 i) := by
      have h9 := (Box.new (w2.alloc (.cells #[.slice A n c] 28)) 3 (.int .i64 i)).cell
      rw [World.size_alloc, hb1, hw3] at h9
      exact h9
    have hco : coI gb (gb + 1) (gb + 2) (b1 + 2) (fromA i v.l) w 0 w3 := ⟨none, 0, x2, x1, OwnsE.nil _ _, by rw [← hgb]; exact hbw, by omega, by omega, Nat.zero_le _⟩
    have HCO := Lib.hid hco
    have HSQ := Lib.hid (behind_seq (fun b => b < b1 + 2 ∧ b ≠ gb + 2) (b1 + 2) b1 (b1 + 1) A n c i v.l w w3 hbw HN.out hn2 H.out HS.out y1 y2 (fun b h => by omega) (by omega) (fun b h => by omega) (by omega))
    rw [hb1]
    clear hw3 hb3 hbw x1 x2 y1 y2 hco c0 c1 c2 k0 k1 k2
    refine (wpIn_wide (n := 0)).1 ?_
    refine wp_rangeX (w0 := w3) rfl (fun args w => by kernel_rfl) HSQ.out ?hSt ?hKb (Below.refl _ _) ?hps (fun j W => coI gb (gb + 1) (gb + 2) (b1 + 2) (fromA i v.l) w j W) (fun c j W => c = .exit 0 ∧ ∃ j', j' + 1 = j ∧ 4096 ≤ j' ∧ coI gb (gb + 1) (gb + 2) (b1 + 2) (fromA i v.l) w j' W) ?hI ?hIx ?hIs ?hIxs ?h0 (fun j a' W => ∃ A3 c3 x bx, (fromA i v.l)[j]? = some x ∧ a' = frF gb b1 i v x A n c A3 c3 bx ∧ EntAt W bx x (.slice A3 x.data.length c3) ∧ W.ownsRow (b1 + 2) 5 1 (.slice A3 x.data.length c3) x.data.length (u8s x.data) ∧ b1 + 2 ≤ bx) ?hAx ?hassign ?hbody ?hdone ?hstop
    case hSt => exact fun A B k o h => h.elim
    case hKb => exact fun b h => by omega
    case hps =>
      rintro k x args W ⟨_, _, rfl, _⟩
      rfl
    case hI => exact fun j X Y row h hg hr => coI_mild (X := b1) (by omega) (by omega) (by omega) (by omega) h (Mild.of_grown hg (fun r e => ⟨by have := (hr r e).1; omega, (hr r e).2⟩))
    case hIx =>
      rintro c j X Y row ⟨rfl, j', h1, h2, h3⟩ hg hr
      exact ⟨rfl, j', h1, h2, coI_mild (X := b1) (by omega) (by omega) (by omega) (by omega) h3 (Mild.of_grown hg (fun r e => ⟨by have := (hr r e).1; omega, (hr r e).2⟩))⟩
    case hIs => exact fun k A B h h' => h'.elim
    case hIxs => exact fun c k A B h h' => h'.elim
    case h0 => exact HCO.out
    case hAx =>
      rintro j a' ⟨⟩ X Y row ⟨A3, c3, x, bx, h1, h2, h3, h4, h5⟩ hg hr
      have hm : Mild gb b1 X Y := Mild.of_grown hg (fun r e => ⟨by have := (hr r e).1; omega, (hr r e).2⟩)
      exact ⟨A3, c3, x, bx, h1, h2, hm.cells bx _ h3 rfl (by omega), hm.own h4 (by omega), h5⟩
    case hassign =>
      rintro ll j x args W' K hx ⟨A3, c3, rfl, hown⟩ hi hK
      have hsz : b1 + 2 ≤ W'.heap.size := by
        obtain ⟨_, _, _, _, _, _, h, _⟩ := hi
        exact h
      rw [Ent.val_eq]
      unfold Ent.cells
      gi_wp2
      have hbe : Below W'.heap.size W' (W'.alloc (Obj.cells #[.int .i64 x.term, .int .i64 x.index, .int .i64 x.kind, .slice A3 x.data.length c3] 110)) := (Below.refl _ _).alloc (Nat.le_refl _) _
      refine hK _ _ ((KeepsOthers.alloc W' _).from _) (KeptOn.alloc _ (fun b h => by omega)) (coI_mild (X := b1) (by omega) (by omega) (by omega) (by omega) hi (Mild.of_grown (below_grown hbe) (fun r e => by cases e))) ⟨A3, c3, x, W'.heap.size, hx, rfl, heap_alloc_new W' _, own_keep hown hbe, hsz⟩
    case hbody =>
      rintro ll j x a' W5 hx ⟨A1, c1, bx1, bx2, ho, hb, hs, hkm, hkx⟩ ⟨A3, c3, x', bx, hx', rfl, hent, hown3, hbx⟩
      rw [hx] at hx'
      cases hx'
      have hjl := (List.getElem?_eq_some_iff.1 hx).1
      have m1 := Box.cell bx1
      have m2 := Box.cell bx2
      have f1 := Box.frozen bx1
      unfold EntAt at hent
      have e0 := cell_of_row W5 bx 0 _ _ _ hent
      have e1 := cell_of_row W5 bx 1 _ _ _ hent
      have e2 := cell_of_row W5 bx 2 _ _ _ hent
      have e3 := cell_of_row W5 bx 3 _ _ _ hent
      simp at e0 e1 e2 e3
      unfold frF
      obtain ⟨q, hq⟩ : ∃ q, x.data.length = q := ⟨_, rfl⟩
      rw [hq] at e3 hown3
      rw [hq]
      have HQ := Lib.hid hq
      have HX := Lib.hid hx
      clear hq hx
      by_cases hmo : 4096 ≤ j
      · have hmoi : (4096 : Int) ≤ (j : Int) := by omega
        gi_wp2
        exact ⟨KeepsFrom.refl _ _, rfl, j, rfl, hmo, A1, c1, bx1, bx2, ho, hb, hs, hkm, hkx⟩
      · have hmoi : ¬ (4096 : Int) ≤ (j : Int) := by omega
        obtain ⟨cells, o1, o2⟩ := ho
        have O1 := Lib.hid o1
        have O2 := Lib.hid o2
        clear o1 o2
        gi_wp2_with (gi_at_builtin; go_loud (refine wpListIn_append_sees rfl (.tmp 20) (.tmp 22) 28 rfl (b1 + 2) 110 (.agg zeros4) 4 48 Tryz.underlying28 infoE rfl (by decide) (.slice A1 j c1) j cells rfl (own_alloc' O1.out _) (some ⟨W5.heap.size, 0, none⟩) 1 1 (x.cells (.slice A3 q c3)) rfl rfl (sees_new W5 #[.int .i64 x.term, .int .i64 x.index, .int .i64 x.kind, .slice A3 q c3] 110) (cells_ones x A3 q c3) (by simp only [maxLen]; omega) (by omega) (by first | (simp; done) | (simp; omega)) ?_); intro A2 c2' w6 hown2 hg2 hat2; have bz1 := (bx1.alloc (.cells #[.int .i64 x.term, .int .i64 x.index, .int .i64 x.kind, .slice A3 q c3] 110)).grown hg2 (fun r e => by have := (own_block_ge O1.out r e).1; omega); have bz2 := (bx2.alloc (.cells #[.int .i64 x.term, .int .i64 x.index, .int .i64 x.kind, .slice A3 q c3] 110)).grown hg2 (fun r e => by have := (own_block_ge O1.out r e).1; omega); have c3' := bz1.cell; have f3' := bz1.frozen)
        have hbe : Below W5.heap.size W5 (W5.alloc (Obj.cells #[.int .i64 x.term, .int .i64 x.index, .int .i64 x.kind, .slice A3 q c3] 110)) := (Below.refl _ _).alloc (Nat.le_refl _) _
        have hown1 := own_alloc' O1.out (.cells #[.int .i64 x.term, .int .i64 x.index, .int .i64 x.kind, .slice A3 q c3] 110)
        refine ⟨?_, ?_, ?_⟩
        · exact (((KeepsOthers.alloc W5 _).trans (KeepsOthers.of_grownBy hg2 (ownE_cells hown1))).trans (KeepsOthers.setCell _ _ _)).from _
        · refine ((KeptOn.alloc _ ?_).trans (KeptOn.grown hg2 ?_)).trans (KeptOn.set _ ?_)
          · exact fun b h => by omega
          · exact fun b h => ⟨by simp; omega, fun e => by have := (own_block_ge O1.out b e.symm).1; omega⟩
          · intro h
            simp at h
        · have htk : (fromA i v.l).take (j + 1) = (fromA i v.l).take j ++ [x] := by rw [List.take_succ_eq_append_getElem hjl, (List.getElem?_eq_some_iff.1 HX.out).2]
          refine ⟨A2, c2', bz1.set _, bz2.far _ _ (by first | (simp; done) | (simp; omega)), ?_, ?_, ?_, by omega, hjl⟩
          · rw [htk]
            refine OwnsE.far (OwnsE.snoc hown1 (O2.out.imp fun k y cs _ hl => hl.below hbe) ⟨A3, c3, by rw [HQ.out], ?_⟩ hown2 hg2) _ (by show gb + 2 < _; omega) _
            rw [HQ.out]
            exact own_keep hown3 hbe
          · exact (below_grown_own (hb.alloc (by have := hb.size; omega) _) (by have := hb.size; simp; omega) hown1 (by omega) hg2).setCell (by first | (simp; done) | (simp; omega)) _
          · have := hg2.size
            simp [World.setCell] at this ⊢
            omega
    case hdone =>
      rintro D W5 hD ⟨A1, c1, bx1, bx2, ho, hb, hs, hkm, hkx⟩ hK
      have m1 := Box.cell bx1
      have hm5 : Mild gb b1 W5 (W5.putObj D (.deferred none)) := Mild.of_grown (grownBy_putObj' W5 D _) (fun r e => by cases e; exact ⟨by omega, _, hK, rfl⟩)
      obtain ⟨k, hk⟩ : ∃ k, (fromA i v.l).length = k := ⟨_, rfl⟩
      rw [hk] at m1 ho hkm
      have HFR : Hid (fromL v i = (fromA i v.l).take k) := Lib.hid (by rw [← hk, List.take_length]; unfold fromL; rw [HRR.out, if_pos rfl]; exact List.take_of_length_le (by rw [← hk] at hkm; exact hkm))
      have HO := Lib.hid (ho.mild hm5 (by omega))
      have HBW := Lib.hid (hm5.below hb (by omega))
      have HKD := Lib.hid hK
      clear hm5 ho hb hK bx1 bx2 hk hkx
      go_wp2
      refine ret_end1 rfl HKD.out rfl ?_
      exact ⟨A1, k, c1, rfl, by rw [HFR.out]; exact HO.out.lower (by omega), by rw [hgb]; exact HBW.out⟩
    case hstop =>
      rintro D c' j W5 hD hj ⟨rfl, j', h1, h2, ⟨A1, c1, bx1, bx2, ho, hb, hs, hkm, hkx⟩⟩ hK
      obtain rfl : j' = 4096 := by omega
      have m1 := Box.cell bx1
      have hm5 : Mild gb b1 W5 (W5.putObj D (.deferred none)) := Mild.of_grown (grownBy_putObj' W5 D _) (fun r e => by cases e; exact ⟨by omega, _, hK, rfl⟩)
      have HFR : Hid (fromL v i = (fromA i v.l).take 4096) := Lib.hid (by unfold fromL; rw [HRR.out, if_pos rfl]; rfl)
      have HO := Lib.hid (ho.mild hm5 (by omega))
      have HBW := Lib.hid (hm5.below hb (by omega))
      have HKD := Lib.hid hK
      clear hm5 ho hb hK bx1 bx2 hkx
      refine (wpIn_wide (n := 0)).2 ?_
      go_wp2
      refine ret_end1 rfl HKD.out rfl ?_
      exact ⟨A1, 4096, c1, rfl, by rw [HFR.out]; exact HO.out.lower (by omega), by rw [hgb]; exact HBW.out⟩
end Go.Proofs.YtoongmoajnedlaaGreat
