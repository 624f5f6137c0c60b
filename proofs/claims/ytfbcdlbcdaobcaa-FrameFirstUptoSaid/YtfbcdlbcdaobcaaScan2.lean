/-
  Scan: the caller of the iterator.
-/
import Derived.Test.YtfbcdlbcdaobcaaScan
import Derived.RegionTactic
import Derived.BigRegion
set_option linter.unusedVariables false
set_option linter.unusedSimpArgs false
namespace Go.Proofs.Ytfbcdlbcdaobcaa
open Go.RowKit
attribute [local go_sem] Oper.semAt_some

/-- A frame in memory, its data a row of the call's own. -/
def frOwn (base : Nat) (W : World) (f : UInt8 × List UInt8) (cs : List Value) : Prop :=
  ∃ A c, cs = [.int .i64 (f.1.toNat : Int), .slice A f.2.length c] ∧ W.ownsRow base 5 1 (.slice A f.2.length c) f.2.length (u8s f.2)
/-- What Scan hands back. -/
def RetScan (w : World) (bs : List UInt8) (e : Ending) (w' : World) : Prop :=
  ∃ A c cells, e = .returned (.tuple #[.slice A (scan bs).length c, .int .i64 (size (scan bs) : Int), .bool (decide (size (scan bs) = bs.length))]) ∧
    w'.ownsRow w.heap.size 37 2 (.slice A (scan bs).length c) (scan bs).length cells ∧ Recs (frOwn w.heap.size) 2 w' (scan bs) cells ∧ Below w.heap.size w w'
/-- Between two rounds. -/
def scI (w : World) (xs : List (UInt8 × List UInt8)) (k : Nat) (W : World) : Prop :=
  ∃ A c cells, Box W w.heap.size 29 (.slice A k c) ∧ Box W (w.heap.size + 1) 3 (.int .i64 (size (xs.take k) : Int)) ∧
    W.ownsRow (w.heap.size + 3) 37 2 (.slice A k c) k cells ∧ Recs (frOwn (w.heap.size + 3)) 2 W (xs.take k) cells ∧ Below w.heap.size w W ∧ w.heap.size + 3 ≤ W.heap.size

theorem wpListIn_append_sees {F : Fence} {n' : Nat} {P : Program} {ops : Array Oper} {rest : List Oper} {o : Oper} {a : Act} {Q : Exit → Act → World → Prop} {w : World} (hgd : o.guard = none) (s x : Operand) (t : TypeId)
    (ho : o.op = .call { callee := .builtin .append, args := #[s, x], argTypes := #[t, t] }) (base : Nat) (e : TypeId) (z : Value) (size bytes : Nat) (ht : P.underlying t = some (.slice e))
    (hinfo : (P.info? e).map (fun i => (i.zero, i.size, i.bytes)) = some (some z, size, bytes)) (hzs : z.cells.size = size) (hsz : 0 < size)
    (v : Value) (n : Nat) (xs : List Value) (hs : a.eval s = v) (hown : w.ownsRow base e size v n xs)
    (A : Option Addr) (m c : Nat) (news : List Value) (hx : a.eval x = .slice A m c) (hl : news.length = m * size) (hnews : Sees w A news) (h1 : ∀ u ∈ news, u.oneCell' = true)
    (h63 : n + m ≤ maxLen) (hbytes : (n + m) * bytes ≤ 140737488355328) (hbase : base ≤ w.heap.size)
    (h : ∀ A' c' w', w'.ownsRow base e size (.slice A' (n + m) c') (n + m) (xs ++ news) → w.grownBy w' v.ownBlock → ((Value.slice A' (n + m) c').ownBlock = v.ownBlock ∨ (Value.slice A' (n + m) c').ownBlock = some w.heap.size) →
      wpListIn F n' P ops Q rest (a.put o.dst (.slice A' (n + m) c')) w') : wpListIn F n' P ops Q (o :: rest) a w := by
  refine wpListIn_plain hgd fun K hK => ?_
  obtain ⟨A', c', w', hr, h2, h3, h4⟩ := run_append_sees (P := P) w base t o.type e z size bytes ht hinfo hzs hsz v n xs hown A m c news hl hnews h1 h63 hbytes hbase
  unfold Oper.wpIn
  refine ⟨?_, ?_⟩
  · simp [Oper.about, ho, resolve, Target.leads, Sem.run_pure]
  · rw [Oper.semAt_plain F _ _ (by rw [ho]; intro c hc'; cases hc')]
    simp [execOp, ho, resolve, invoke, builtin, hs, hx, hr, Result.andThen]
    exact hK _ _ (h A' c' w' h2 h3 h4)
theorem infoFrame : (Try.prog.info? 37).map (fun i => (i.zero, i.size, i.bytes)) = some (some (.agg #[.int .i64 0, .slice none 0 0]), 2, 32) := by kernel_rfl
theorem Box.alloc {w : World} {B : Nat} {t : TypeId} {v : Value} (h : Box w B t v) (o : Obj) : Box (w.alloc o) B t v := (Below.heap_alloc w o B h.lt).trans h
theorem Box.grown {w w1 : World} {B : Nat} {t : TypeId} {v : Value} {row : Option Nat} (h : Box w B t v) (hg : w.grownBy w1 row) (hne : ∀ r, row = some r → r ≠ B) : Box w1 B t v :=
  (hg.block B h.lt (fun e => hne B e.symm rfl)).trans h
theorem own_apart {w w1 : World} {b b' s s' n n' : Nat} {e e' : TypeId} {v v' : Value} {xs xs' : List Value} (h : w.ownsRow b e s v n xs) (h' : w.ownsRow b' e' s' v' n' xs') (hne : e ≠ e') (hg : w.grownBy w1 v'.ownBlock) : w1.ownsRow b e s v n xs := by
  obtain ⟨h1, h2⟩ := h
  refine ⟨h1, ?_⟩
  rcases h2 with h2 | ⟨g, cap, cur, hv, hb, hh, r⟩
  · exact .inl h2
  · refine .inr ⟨g, cap, cur, hv, hb, (hg.block g (Array.getElem?_eq_some_iff.1 hh).1 (fun eq => ?_)).trans hh, r⟩
    rcases h'.2 with ⟨rfl, _⟩ | ⟨g', cap', cur', rfl, _, hh', _⟩
    · simp [Value.ownBlock] at eq
    · have : g = g' := by simpa [Value.ownBlock] using eq
      subst this
      rw [hh] at hh'
      injection hh' with hh'
      injection hh' with _ ht
      exact hne ht
theorem own_cells {w : World} {b s n : Nat} {e : TypeId} {v : Value} {xs : List Value} (h : w.ownsRow b e s v n xs) : ∀ (j : Nat) (o : Obj), v.ownBlock = some j → w.heap[j]? = some o → o.isCells = true := by
  intro j o hj ho
  rcases h.2 with ⟨rfl, _⟩ | ⟨g, cap, cur, rfl, _, hh, _⟩
  · simp [Value.ownBlock] at hj
  · have : g = j := by simpa [Value.ownBlock] using hj
    subst this
    rw [hh] at ho
    cases ho
    rfl
theorem scI_mild {w : World} {xs : List (UInt8 × List UInt8)} {k : Nat} {X Y : World} (h : scI w xs k X) (hm : Mild w.heap.size (w.heap.size + 2) X Y) : scI w xs k Y := by
  obtain ⟨A, c, cells, h1, h2, h3, h4, h5, h6⟩ := h
  refine ⟨A, c, cells, hm.box h1 (by omega), hm.box h2 (by omega), hm.own h3 (by omega), h4.imp fun j x cs _ hR => ?_, hm.below h5 (Nat.le_refl _), Nat.le_trans h6 hm.size⟩
  obtain ⟨A', c', e, ho⟩ := hR
  exact ⟨A', c', e, hm.own ho (by omega)⟩

theorem size_ge (l : List (UInt8 × List UInt8)) : l.length * 9 ≤ size l := by
  induction l with
  | nil => simp
  | cons f l ih => rw [size_cons, List.length_cons]; omega
/-- Behind the assignment to the loop's variables. -/
def scAx (w : World) (A : Option Addr) (bs : List UInt8) (c : Nat) (k : Nat) (a' : Act) (W : World) : Prop :=
  ∃ Fb A3 c3 f, (scan bs)[k]? = some f ∧ a' = { tmps := #[.slice A bs.length c, undef, .pointer (some ⟨w.heap.size, 0, none⟩), .pointer (some ⟨w.heap.size + 1, 0, none⟩), .bool false, .int .i64 (size ((scan bs).take (k + 1)) : Int), .pointer (some ⟨Fb, 0, none⟩), .slice A bs.length c,
      .func (.func 27) #[] #[.pointer (some ⟨w.heap.size + 2, 0, none⟩)], .int .i64 (size ((scan bs).take (k + 1)) : Int), .agg #[.int .i64 (f.1.toNat : Int), .slice A3 f.2.length c3], undef, undef, undef, undef, undef, undef, undef, undef, undef, undef, undef], defers := [] } ∧
    W.heap[Fb]? = some (.cells #[.int .i64 (f.1.toNat : Int), .slice A3 f.2.length c3] 37 (0, 0)) ∧ W.ownsRow (w.heap.size + 3) 5 1 (.slice A3 f.2.length c3) f.2.length (u8s f.2) ∧ w.heap.size + 3 ≤ Fb

set_option maxHeartbeats 2000000 in
theorem scan_any (A : Option Addr) (bs : List UInt8) (c : Nat) (w : World) (hc : bs.length ≤ c) (hcm : c ≤ maxLen) (hl' : bs.length ≤ 1099511627776) (hs : Sees w A (u8s bs)) :
    Calls Try.prog 14 #[.slice A bs.length c] w (RetScan w bs) := by
  have hl : bs.length ≤ 140737488355328 := by omega
  refine (callsIn_wide (n := 0)).1 ?_
  refine callsIn_of_wp_marks Try.func14 rfl trivial ?_ rfl
  simp only [Try.ntmps14, List.size_toArray, List.length_cons, List.length_nil, Nat.reduceAdd, Nat.reduceSub, Array.replicate_succ, Array.replicate_zero, List.push_toArray, List.append_toArray, List.nil_append, List.cons_append]
  gi_wp2_with (refine ⟨trivial, rfl, ?_⟩; gi_at_call 23; refine (callsIn_wide.2 (frames_any _ rfl _)).mono ?_; rintro e w' ⟨rfl, rfl⟩)
  obtain ⟨w3, hw3⟩ : ∃ w3, ((w.alloc (.cells #[.slice none 0 0] 29)).alloc (.cells #[.int .i64 0] 3)).alloc (.cells #[.slice A bs.length c] 22) = w3 := ⟨_, rfl⟩
  have hz : w3.heap.size = w.heap.size + 3 := by rw [← hw3]; simp
  have hb3 : Below w.heap.size w w3 := by rw [← hw3]; exact (((Below.refl _ w).alloc (Nat.le_refl _) _).alloc (by simp) _).alloc (by simp; omega) _
  have hx1 : Box w3 w.heap.size 29 (.slice none 0 0) := by
    rw [← hw3]
    exact ((Box.new w _ _).alloc _).alloc _
  have hx2 : Box w3 (w.heap.size + 1) 3 (.int .i64 0) := by
    rw [← hw3]
    have := (Box.new (w.alloc (.cells #[.slice none 0 0] 29)) 3 (.int .i64 0)).alloc (.cells #[.slice A bs.length c] 22)
    simpa using this
  have hx3 : frBox (w.heap.size + 2) A bs c w3 := by
    rw [← hw3]
    have := Box.new ((w.alloc (.cells #[.slice none 0 0] 29)).alloc (.cells #[.int .i64 0] 3)) 22 (.slice A bs.length c)
    simpa [frBox] using this
  have hAb : ∀ ad, A = some ad → 0 < bs.length → ad.block < w.heap.size := fun ad e h0 => by
    obtain ⟨ad', e', hcell⟩ := u8_at hs 0 h0
    rw [e] at e'
    cases e'
    have := World.block_lt_of_cell? w _ hcell
    rwa [add_blk] at this
  rw [hw3, show w.heap.size + 1 + 1 = w.heap.size + 2 from rfl]
  have hs3 := hs.below hb3
  refine wp_rangeX (w0 := w3) rfl (fun args w => by kernel_rfl)
    (frames_seq (w.heap.size + 3) (w.heap.size + 2) A bs c (fun b => b < w.heap.size ∨ b = w.heap.size + 2) w3 hc hcm hl hs3 hx3 ?hA (.inr rfl) (by omega))
    ?hSt ?hKb (Below.refl _ _) ?hps (fun k W => scI w (scan bs) k W) (fun _ _ _ => False) ?hI (fun _ _ _ _ _ hs _ _ => hs) ?hIs (fun _ _ _ _ hs _ => hs) ?h0 (fun k a' W => scAx w A bs c k a' W) ?hAx ?hassign ?hbody ?hdone ?hstop
  case hA => exact fun ad e h0 => ⟨by have := hAb ad e h0; omega, .inl (hAb ad e h0)⟩
  case hSt =>
    rintro X Y k o ⟨v, rfl⟩ ho hc'
    exact (KeepsOthers.setCell X _ v).same k o ho hc'
  case hKb => exact fun b h => by rcases h with h | h <;> omega
  case hps =>
    rintro k x args W ⟨_, _, rfl, _⟩
    rfl
  case hI => exact fun k X Y row h hg hr => scI_mild h (Mild.of_grown hg (fun r e => ⟨by have := (hr r e).1; omega, (hr r e).2⟩))
  case hIs =>
    rintro k X Y h ⟨v, rfl⟩
    exact scI_mild h (Mild.of_set v rfl (by omega))
  case h0 => exact ⟨none, 0, [], hx1, hx2, ⟨rfl, .inl ⟨rfl, rfl⟩⟩, Recs.nil, hb3, by omega⟩
  case hAx =>
    rintro k a' ⟨⟩ X Y row ⟨Fb, A3, c3, f, h1, h2, h3, h4, h5⟩ hg hr
    have hm : Mild w.heap.size (w.heap.size + 2) X Y := Mild.of_grown hg (fun r e => ⟨by have := (hr r e).1; omega, (hr r e).2⟩)
    exact ⟨Fb, A3, c3, f, h1, h2, hm.cells Fb _ h3 rfl (by omega), hm.own h4 (by omega), h5⟩
  case hassign =>
    rintro l k x args W K hx ⟨A3, c3, rfl, hown⟩ hi hK
    have hsz : w.heap.size + 3 ≤ W.heap.size := by obtain ⟨_, _, _, _, _, _, _, _, h⟩ := hi; exact h
    gi_wp2
    exact hK _ _ ((KeepsOthers.alloc W _).from _) (KeptOn.alloc _ (fun b h => by rcases h with h | h <;> omega)) (scI_mild hi (Mild.of_grown (World.grownBy_alloc W _ none) (fun r e => by cases e)))
      ⟨W.heap.size, A3, c3, x, hx, rfl, heap_alloc_new _ _, own_alloc' hown _, hsz⟩
  case hbody =>
    rintro l k x a' W hx ⟨A', c', cells, hb1, hb2, hown, hrecs, hbel, hsz⟩ ⟨Fb, A3, c3, f, hf, rfl, hF, hownF, hFb⟩
    rw [hx] at hf
    cases hf
    have hkl := (List.getElem?_eq_some_iff.1 hx).1
    have hsl := scan_le _ bs (Nat.le_refl _)
    have hkn : k ≤ 1099511627776 := by
      have h1 : (scan bs).length * 9 ≤ size (scan bs) := size_ge _
      omega
    have c1 := Box.cell hb1
    have c2 := Box.cell hb2
    have f1 := Box.frozen hb1
    have f2 := Box.frozen hb2
    have e1 : W.cell? ⟨Fb, 0, none⟩ = some (.int .i64 (x.1.toNat : Int)) := by simp [World.cell?, hF]
    have e2 : W.cell? ⟨Fb, 1, none⟩ = some (.slice A3 x.2.length c3) := by simp [World.cell?, hF]
    gi_wp2_with (gi_at_builtin; go_loud (refine wpListIn_append_sees rfl (.tmp 11) (.tmp 13) 29 rfl (w.heap.size + 3) 37 (.agg #[.int .i64 0, .slice none 0 0]) 2 32 Try.underlying29 infoFrame rfl (by decide) (.slice A' k c') k cells rfl (own_alloc' hown _) (some ⟨W.heap.size, 0, none⟩) 1 1 [.int .i64 (x.1.toNat : Int), .slice A3 x.2.length c3] rfl rfl (sees_new _ _ _) (by simp [Value.oneCell']) (by simp only [maxLen]; omega) (by omega) (by simp; omega) ?_); intro A2 c2' w2 hown2 hg2 hat2; have bx1 := (hb1.alloc (.cells #[.int .i64 (x.1.toNat : Int), .slice A3 x.2.length c3] 37)).grown hg2 (fun r e => by have := (own_block_ge hown r e).1; omega); have bx2 := (hb2.alloc (.cells #[.int .i64 (x.1.toNat : Int), .slice A3 x.2.length c3] 37)).grown hg2 (fun r e => by have := (own_block_ge hown r e).1; omega); have c3' := bx1.cell; have f3' := bx1.frozen; have c4' := bx2.cell; have f4' := bx2.frozen)
    have hown1 := own_alloc' hown (.cells #[.int .i64 (x.1.toNat : Int), .slice A3 x.2.length c3] 37)
    refine ⟨?_, ?_, ?_⟩
    · exact (((KeepsOthers.alloc W _).trans (KeepsOthers.of_grownBy hg2 (own_cells hown1))).trans ((KeepsOthers.setCell _ _ _).trans (KeepsOthers.setCell _ _ _))).from _
    · refine ((KeptOn.alloc _ ?_).trans (KeptOn.grown hg2 ?_)).trans ((KeptOn.set _ ?_).trans (KeptOn.set _ ?_))
      · exact fun b h => by rcases h with h | h <;> omega
      · refine fun b h => ⟨by simp; rcases h with h | h <;> omega, fun e => ?_⟩
        have := (own_block_ge hown b e.symm).1
        rcases h with h | h <;> omega
      · intro h; rcases h with h | h <;> (simp at h; try omega)
      · intro h; rcases h with h | h <;> (simp at h; try omega)
    · have hkeep : ∀ {v : Value} {n : Nat} {xs : List Value}, W.ownsRow (w.heap.size + 3) 5 1 v n xs →
          ((w2.setCell ⟨w.heap.size, 0, none⟩ (.slice A2 (k + 1) c2')).setCell ⟨w.heap.size + 1, 0, none⟩ (.int .i64 (size ((scan bs).take (k + 1)) : Int))).ownsRow (w.heap.size + 3) 5 1 v n xs := fun h =>
        ownsRow_setCell_below (ownsRow_setCell_below (own_apart (own_alloc' h _) hown1 (by decide) hg2) (by simp) _) (by simp) _
      refine ⟨A2, c2', _, (bx1.set _).far _ _ (by simp), (bx2.far _ _ (by simp)).set _, ownsRow_setCell_below (ownsRow_setCell_below hown2 (by simp) _) (by simp) _, ?_, ?_, ?_⟩
      · have htk : (scan bs).take (k + 1) = (scan bs).take k ++ [x] := by rw [List.take_succ_eq_append_getElem hkl, (List.getElem?_eq_some_iff.1 hx).2]
        refine Eq.mpr (congrArg (fun l => Recs (frOwn (w.heap.size + 3)) 2 _ l _) htk) ?_
        refine (hrecs.imp fun j y cs _ hR => ?_).snoc rfl ⟨A3, c3, rfl, hkeep hownF⟩
        obtain ⟨A', c', e, ho⟩ := hR
        exact ⟨A', c', e, hkeep ho⟩
      · exact ((below_grown_own (hbel.alloc hbel.size _) (by have := hbel.size; simp; omega) hown1 (by omega) hg2).setCell (by simp) _).setCell (by simp) _
      · have := hg2.size
        simp [World.setCell] at this ⊢
        omega
  case hdone =>
    rintro D W hD ⟨A', c', cells, hb1, hb2, hown, hrecs, hbel, hsz⟩ hK
    have c1 := Box.cell hb1
    have c2 := Box.cell hb2
    have f1 := Box.frozen hb1
    have f2 := Box.frozen hb2
    gi_wp2
    refine wpIn_wide.2 ?_
    go_region
    gi_wp2
    have hszs : size ((scan bs).take (scan bs).length) = size (scan bs) := by rw [List.take_length]
    rw [hszs] at hb2
    obtain ⟨W4, hW4⟩ : ∃ W4, ((W.setCell ⟨w.heap.size, 0, none⟩ (.slice A' (scan bs).length c')).setCell ⟨w.heap.size + 1, 0, none⟩ (.int .i64 (size (scan bs) : Int))).drew = W4 := ⟨_, rfl⟩
    have hK4 : W4.heap[D]? = some (.deferred (some [])) := by
      rw [← hW4]
      exact ((KeepsOthers.setCell W _ _).trans (KeepsOthers.setCell _ _ _)).same D _ hK rfl
    have hW4b : Box W4 w.heap.size 29 (.slice A' (scan bs).length c') := by rw [← hW4]; exact (hb1.set _).far _ _ (by simp)
    have hW4c : Box W4 (w.heap.size + 1) 3 (.int .i64 (size (scan bs) : Int)) := by rw [← hW4]; exact (hb2.far _ _ (by simp)).set _
    rw [hW4]
    refine ⟨by simp, .inl ⟨_, _, rfl, run_takeDeferred hK4, ?_⟩⟩
    have hm5 : Mild w.heap.size (w.heap.size + 2) W4 (W4.putObj D (.deferred none)) := Mild.of_grown (grownBy_putObj' W4 D _) (fun r e => by cases e; exact ⟨by omega, _, hK4, rfl⟩)
    have r1 := (hm5.box hW4b (by omega)).cell
    have r2 := (hm5.box hW4c (by omega)).cell
    refine ⟨.tuple #[.slice A' (scan bs).length c', .int .i64 (size (scan bs) : Int), .bool (decide (size (scan bs) = bs.length))], ?_, ?_⟩
    · simp [results, Try.results14, go_sem, r1, r2]
      exact Bool.eq_iff_iff.2 (by simp; omega)
    · have hkeep : ∀ {b s n : Nat} {e : TypeId} {v : Value} {xs : List Value}, w.heap.size + 2 < b → W.ownsRow b e s v n xs → (W4.putObj D (.deferred none)).ownsRow b e s v n xs := fun hb h =>
        hm5.own (by rw [← hW4]; exact ownsRow_setCell_below (ownsRow_setCell_below h (by simp; omega) _) (by simp; omega) _) hb
      refine ⟨A', c', cells, rfl, own_lower (hkeep (by omega) hown) (by omega), ?_, ?_⟩
      · rw [List.take_length] at hrecs
        refine hrecs.imp fun j y cs _ hR => ?_
        obtain ⟨A', c', e, ho⟩ := hR
        exact ⟨A', c', e, own_lower (hkeep (by omega) ho) (by omega)⟩
      · refine hm5.below ?_ (Nat.le_refl _)
        rw [← hW4]
        exact ((hbel.setCell (p := ⟨w.heap.size, 0, none⟩) (Nat.le_refl _) _).setCell (p := ⟨w.heap.size + 1, 0, none⟩) (Nat.le_succ _) _).drew
  case hstop => exact fun D c k W _ _ h _ => h.elim
end Go.Proofs.Ytfbcdlbcdaobcaa
