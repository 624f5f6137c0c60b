/-
  The iterator of a model's records.
-/
import Derived.Test.YtbnbeailbhnbdaaModB
import Derived.Test.YtbnbeailbhnbdaaRange
import Derived.Stop.RegionWithIn
import Derived.BigRegionIn
import Derived.Deep.CutRange
import Derived.Deep.DeepCutAuto
import Derived.RegionTactic
import Derived.BigRegion
set_option linter.unusedVariables false
set_option linter.unusedSimpArgs false
namespace Go.Proofs.Ytbnbeailbhnbdaa
open Go.RowKit

/-- What the iterator hands over: a record, in a row of its own. -/
def byEnc (n0 : Nat) (k : Nat) (x : List UInt8) (args : Array Value) (W : World) : Prop := ∃ A c, args = #[.slice A x.length c] ∧ W.ownsRow n0 5 1 (.slice A x.length c) x.length (u8s x)
def NoStep (_ _ : World) : Prop := False
/-- What the iterator sees. -/
def RecSee (Kb : Nat → Prop) (l : List (List UInt8)) (X : Option Addr) (n c : Nat) (W : World) : Prop :=
  ∃ cells, l.length = n ∧ Sees W X cells ∧ (∀ ad, X = some ad → Kb ad.block) ∧ Recs (byRow Kb) 1 W l cells
theorem RecSee.keep {Kb : Nat → Prop} {l : List (List UInt8)} {X : Option Addr} {n c : Nat} {W W' : World} (h : RecSee Kb l X n c W) (hk : ∀ b, b < W.heap.size → Kb b → W'.heap[b]? = W.heap[b]?) : RecSee Kb l X n c W' := by
  obtain ⟨cells, h1, h2, h3, h4⟩ := h
  refine ⟨cells, h1, fun j u hj => ?_, h3, h4.imp fun j x cs _ hl => ?_⟩
  · obtain ⟨ad, e, hc⟩ := h2 j u hj
    refine ⟨ad, e, ?_⟩
    rw [World.cell?_of_block (hk _ (World.block_lt_of_cell? _ _ hc) (by rw [add_blk]; exact h3 ad e))]
    exact hc
  · obtain ⟨A1, c1, e, ho, hs⟩ := hl
    exact ⟨A1, c1, e, own_same ho (fun b hb => hk b (own_block_ge ho b hb).2 (hs b hb)), hs⟩
def recRel (n0 : Nat) (l : List (List UInt8)) (X : Option Addr) (n c : Nat) (Kb : Nat → Prop) (J : Nat → World → Prop) (at_ : Value) (wr : World) : Prop :=
  ∃ i : Nat, at_ = .int .i64 (i : Int) ∧ i ≤ n ∧ RecSee Kb l X n c wr ∧ J i wr ∧ n0 ≤ wr.heap.size
theorem rec_get {Kb : Nat → Prop} {l : List (List UInt8)} {k n c i : Nat} {X : Option Addr} {W : World} (h : RecSee Kb (l.drop k) X n c W) (hi : i < n) (hl : ∀ x ∈ l, x.length ≤ 140737488355328) :
    ∃ x A1 q a1 ad, (l.drop k)[i]? = some x ∧ x.length = q ∧ X = some ad ∧ W.cell? (ad.add i) = some (.slice A1 q a1) ∧ Sees W A1 (u8s x) ∧ q ≤ 140737488355328 ∧ q ≤ a1 := by
  obtain ⟨cells, h1, h2, h3, h4⟩ := h
  have hil : i < (l.drop k).length := by omega
  obtain ⟨cs, _, ⟨A1, a1, rfl, ho, _⟩, hcs⟩ := h4.get (List.getElem?_eq_getElem hil)
  have hu : cells[i]? = some (.slice A1 (l.drop k)[i].length a1) := by simpa using hcs 0 _ rfl
  obtain ⟨ad, e, hc⟩ := h2 i _ hu
  obtain ⟨_, h5, _, h6⟩ := sees_own' ho
  exact ⟨_, A1, _, a1, ad, List.getElem?_eq_getElem hil, rfl, e, hc, h6, hl _ (List.mem_of_mem_drop (List.getElem_mem hil)), h5⟩
theorem rec_ways {e : Ending} {p q : Prop} (h : (e = .returned (.bool true) ∧ p) ∨ (e = .returned (.bool false) ∧ q)) : ∃ b, e = .returned (.bool b) ∧ Hid ((b = true ∧ p) ∨ (b = false ∧ q)) := by
  rcases h with ⟨rfl, h⟩ | ⟨rfl, h⟩
  · exact ⟨true, rfl, .inl ⟨rfl, h⟩⟩
  · exact ⟨false, rfl, .inr ⟨rfl, h⟩⟩
theorem clone_q (A : Option Addr) (q c : Nat) (bs : List UInt8) (w : World) (hq : bs.length = q) (hc : q ≤ c) (hl : q ≤ 140737488355328) (h : Sees w A (u8s bs)) :
    Calls Try.prog 29 #[.slice A q c] w (RetOwn w 5 1 q (u8s bs)) := by
  subst hq
  exact clone_u8 A bs c w hc hl h
set_option maxHeartbeats 4000000 in
theorem recs_seq {T : Nat → Prop} {g first k n0 B1 B2 : Nat} {l : List (List UInt8)} (Kb : Nat → Prop) (w : World) (hf : first ≤ 140737488355328) (hl : l.length ≤ 4398046511104) (hb1 : w.cell? ⟨B1, 0, none⟩ = some (.pointer (some ⟨g, 0, none⟩))) (hb2 : w.cell? ⟨B2, 0, none⟩ = some (.int .i64 ((first : Int) + (k : Int))))
    (h : ModAt 61 T g first l w) (hT : ∀ b, T b → Kb b) (hk : k ≤ l.length) (hlen : ∀ x ∈ l, x.length ≤ 140737488355328) (hn0 : n0 ≤ w.heap.size) :
    SeqX Try.prog 48 #[.pointer (some ⟨B1, 0, none⟩), .pointer (some ⟨B2, 0, none⟩)] (byEnc n0) (l.drop k) NoStep Kb w := by
  intro ll J Jx W hW hJ hJx hY h0
  have hM := h.below hW
  obtain ⟨R, cr, cells, h1, h2, h3, h4, h5⟩ := hM
  obtain ⟨X, hX, hXb, hq⟩ := trim_slice h3 k hk
  have c1 := (hW.cell (World.block_lt_of_cell? _ _ hb1)).trans hb1
  have c2 := (hW.cell (World.block_lt_of_cell? _ _ hb2)).trans hb2
  obtain ⟨m0, m1, _⟩ := mod_cells h1
  have hsee : RecSee Kb (l.drop k) X (l.length - k) (cr - k) W := by
    refine ⟨cells.drop k, by simp, q_sees hq, fun ad e => hT _ (h4 _ (by rw [← hXb, e]; rfl)), ?_⟩
    have := h5.drop k
    rw [Nat.mul_one] at this
    exact this.imp fun j x cs _ hl => by
      obtain ⟨A1, c1, e, ho, hs⟩ := hl
      exact ⟨A1, c1, e, ho, fun b hb => hT b (hs b hb)⟩
  obtain ⟨n, hn⟩ : ∃ n, l.length - k = n := ⟨_, rfl⟩
  obtain ⟨c, hc⟩ : ∃ c, cr - k = c := ⟨_, rfl⟩
  obtain ⟨N, hN⟩ : ∃ N, l.length = N := ⟨_, rfl⟩
  rw [hn, hc] at hsee
  rw [hN] at m1 hk hl
  have hNk : N - k = n := by omega
  have HST : Hid (∀ q, recRel n0 (l.drop k) X n c Kb J (.int .i64 0) (W.drewN q)) := Lib.hid fun q => ⟨0, rfl, Nat.zero_le _, hsee.keep (fun _ _ _ => rfl), hJ.1 _ _ _ h0 ⟨rfl, rfl, rfl, Nat.le_refl _, fun _ _ _ => rfl⟩, Nat.le_trans hn0 hW.size⟩
  have e1 : (first : Int) + (k : Int) - (first : Int) = (k : Int) := by omega
  have e2 : IntKind.i64.wrap (k : Int) = (k : Int) := IntWalk.i64_in _ (by omega)
  have d1 : W.drew.cell? ⟨B1, 0, none⟩ = some (.pointer (some ⟨g, 0, none⟩)) := c1
  have d2 : W.drew.cell? ⟨B2, 0, none⟩ = some (.int .i64 ((first : Int) + (k : Int))) := c2
  have d3 : W.drew.cell? ⟨g, 0, none⟩ = some (.int .i64 (first : Int)) := m0
  have d4 : W.drew.cell? ⟨g, 1, none⟩ = some (.slice R N cr) := m1
  have HJ := Lib.hid hJ
  have HJx := Lib.hid hJx
  have HY := Lib.hid hY
  have HLN := Lib.hid hlen
  clear hJ hJx hY hsee h0 hb1 hb2 h h1 h2 h3 h4 h5 hXb hq hW hn hN hn0 hlen
  refine callsIn_wide.2 ?_
  go_enter Try.func48, Try.ntmps48
  go_wp2_with fail
  go_quiet (fail)
  go_wp2_with fail
  go_loopw [18] (fun at_ wr => recRel n0 (l.drop k) X n c Kb J at_ wr) (fun at_ _ => n - (intOf at_).toNat)
  case atStart => exact HST.out nq
  case round =>
    obtain ⟨i, rfl, hin, hs, hj, hz⟩ := hrel
    by_cases hi : i < n
    · have hii : (i : Int) < (n : Int) := by omega
      obtain ⟨x, A1, q1, a1, ad, hx, hq1, hXa, hcell, hrow, hql, hqc⟩ := rec_get hs hi HLN.out
      subst hXa
      have HS := Lib.hid hs
      have HX := Lib.hid hx
      have HQ := Lib.hid hq1
      have HRW := Lib.hid hrow
      clear hs hx hq1 hrow
      go_upto_region 3 with fail
      refine (wpIn_wide (n := 0)).1 ?_
      gi_wp2_with (first
        | (refine ⟨trivial, rfl, ?_⟩; gi_at_call 29; refine (callsIn_wide.2 (clone_q A1 q1 a1 x _ HQ.out hqc hql (by exact HRW.out))).mono ?_; rintro e w3 ⟨A3, c3, rfl, hown3, hb3⟩;
            have hown3' : w3.ownsRow n0 5 1 (.slice A3 x.length c3) x.length (u8s x) := (by rw [HQ.out]; exact own_lower hown3 hz);
            obtain ⟨fn, tm, asg, bod, hy, hR⟩ := HY.out i x w3 #[.slice A3 q1 c3] (HJ.out.1 _ _ _ hj (below_grown hb3)) HX.out ⟨A3, c3, by rw [HQ.out], hown3'⟩)
        | (refine ⟨rfl, ?_⟩; refine hR.mono ?_; rintro e w4 h4; obtain ⟨b, rfl, hb4⟩ := rec_ways h4; clear h4)
        | fail)
      have hlen1 : i + 1 ≤ (l.drop k).length := (List.getElem?_eq_some_iff.1 HX.out).1
      rcases hb4.out with ⟨rfl, hj4, hk4⟩ | ⟨rfl, hx4⟩
      · have HS4 : Hid (RecSee Kb (l.drop k) (some ad) n c w4) := Lib.hid (HS.out.keep fun b hlt hb => (hk4.2 b hb).trans (hb3.block b hlt))
        have HJ4 := Lib.hid hj4
        have hz4 : n0 ≤ w4.heap.size := Nat.le_trans (Nat.le_trans hz hb3.size) hk4.1
        clear hj4 hk4 hj hown3 hown3' hb3 hy hR
        go_wp2
        go_roundw
        case rel => exact ⟨i + 1, by go_num, hi, HS4.out, HJ4.out, hz4⟩
        case measure => simp [intOf]; omega
      · go_wp2
        refine bodyPost_ret (results_none rfl _ _ _) rfl ?_
        exact ⟨⟨_, rfl⟩, .inr ⟨i + 1, by rw [← List.length_drop]; exact hlen1, hx4⟩⟩
    · have hii : ¬ (i : Int) < (n : Int) := by omega
      obtain rfl : i = n := by omega
      go_wp2_with fail
      go_end0
      refine ⟨⟨_, rfl⟩, .inl ?_⟩
      obtain ⟨cells, h1, _⟩ := hs
      rw [List.length_drop] at h1
      first | (rw [h1]; exact hj) | (simpa [h1] using hj)
end Go.Proofs.Ytbnbeailbhnbdaa
/-
  The program's Get.
-/
set_option linter.unusedVariables false
set_option linter.unusedSimpArgs false
namespace Go.Proofs.Ytbnbeailbhnbdaa
open Go.RowKit
attribute [local go_sem] Oper.semAt_some

theorem wpListIn_append_sees {F : Fence} {n' : Nat} {P : Program} {ops : Array Oper} {rest : List Oper} {o : Oper} {a : Act} {Q : Exit → Act → World → Prop} {w : World} (hgd : o.guard = none) (s x : Operand) (t : TypeId)
    (ho : o.op = .call { callee := .builtin .append, args := #[s, x], argTypes := #[t, t] }) (base : Nat) (e : TypeId) (z : Value) (size bytes : Nat) (ht : P.underlying t = some (.slice e))
    (hinfo : (P.info? e).map (fun i => (i.zero, i.size, i.bytes)) = some (some z, size, bytes)) (hzs : z.cells.size = size) (hsz : 0 < size)
    (v : Value) (n : Nat) (xs : List Value) (hs : a.eval s = v) (hown : w.ownsRow base e size v n xs)
    (A : Option Addr) (m c : Nat) (news : List Value) (hx : a.eval x = .slice A m c) (hl : news.length = m * size) (hnews : Sees w A news) (h1 : ∀ u ∈ news, u.oneCell' = true)
    (h63 : n + m ≤ maxLen) (hbytes : (n + m) * bytes ≤ 140737488355328) (hbase : base ≤ w.heap.size)
    (h : ∀ A' c' w', w'.ownsRow base e size (.slice A' (n + m) c') (n + m) (xs ++ news) → w.grownBy w' v.ownBlock → ((Value.slice A' (n + m) c').ownBlock = v.ownBlock ∨ (Value.slice A' (n + m) c').ownBlock = some w.heap.size) →
      wpListIn F n' P ops Q rest (a.put o.dst (.slice A' (n + m) c')) w') : wpListIn F n' P ops Q (o :: rest) a w := by
  refine wpListIn_plain hgd fun K hK => ?_
  obtain ⟨A', c', w', hr, h2, h3, h4⟩ := run_append_sees (P := P) w base t o.type e z size bytes ht hinfo hzs hsz v n xs hown A m c news hl hnews h1 h63 hbytes hbase
  unfold Oper.wpIn
  refine ⟨?_, ?_⟩
  · simp [Oper.about, ho, resolve, Target.leads, Sem.run_pure]
  · rw [Oper.semAt_plain F _ _ (by rw [ho]; intro c hc'; cases hc')]
    simp [execOp, ho, resolve, invoke, builtin, hs, hx, hr, Result.andThen]
    exact hK _ _ (h A' c' w' h2 h3 h4)
theorem Box.alloc {w : World} {B : Nat} {t : TypeId} {v : Value} (h : Box w B t v) (o : Obj) : Box (w.alloc o) B t v := (Below.heap_alloc w o B h.lt).trans h
theorem Box.grown {w w1 : World} {B : Nat} {t : TypeId} {v : Value} {row : Option Nat} (h : Box w B t v) (hg : w.grownBy w1 row) (hne : ∀ r, row = some r → r ≠ B) : Box w1 B t v :=
  (hg.block B h.lt (fun e => hne B e.symm rfl)).trans h
theorem own_cells {w : World} {b s n : Nat} {e : TypeId} {v : Value} {xs : List Value} (h : w.ownsRow b e s v n xs) : ∀ (j : Nat) (o : Obj), v.ownBlock = some j → w.heap[j]? = some o → o.isCells = true := by
  intro j o hj ho
  rcases h.2 with ⟨rfl, _⟩ | ⟨g, cap, cur, rfl, _, hh, _⟩
  · simp [Value.ownBlock] at hj
  · have : g = j := by simpa [Value.ownBlock] using hj
    subst this
    rw [hh] at ho
    cases ho
    rfl
theorem records_any (p : Addr) (fr : Int) (w : World) : Calls Try.prog 30 #[.pointer (some p), .int .i64 fr] w fun e w' => e = .returned (.func (.func 48) #[] #[.pointer (some ⟨w.heap.size, 0, none⟩), .pointer (some ⟨w.heap.size + 1, 0, none⟩)]) ∧ (w.alloc (.cells #[.pointer (some p)] 23)).alloc (.cells #[.int .i64 fr] 3) = w' := by
  go_enter Try.func30, Try.ntmps30
  go_wp2
  go_ret
  exact ⟨rfl, rfl⟩
/-- New rows in a new row. -/
def RetGet (xs : List (List UInt8)) (b : Bool) (w : World) (e : Ending) (w' : World) : Prop :=
  ∃ A m c cells, e = .returned (.tuple #[.slice A m c, .bool b]) ∧ m = xs.length ∧ w'.ownsRow w.heap.size 30 1 (.slice A m c) m cells ∧ Recs (byRow (fun b => w.heap.size ≤ b)) 1 w' xs cells ∧ Below w.heap.size w w'
/-- Between two rounds. -/
def geI (n bn bo n0 : Nat) (most : Int) (xs : List (List UInt8)) (w : World) (k : Nat) (W : World) : Prop :=
  ∃ A c cells, Box W bo 26 (.slice A k c) ∧ Box W bn 3 (.int .i64 most) ∧ W.ownsRow n0 30 1 (.slice A k c) k cells ∧ Recs (byRow (fun b => n0 ≤ b)) 1 W (xs.take k) cells ∧ Below n w W ∧ n0 ≤ W.heap.size ∧ k ≤ most.toNat ∧ k ≤ xs.length
theorem ModAt.cut {ty : TypeId} {S : Nat → Prop} {g first : Nat} {l : List (List UInt8)} {W : World} (h : ModAt ty S g first l W) : ModAt ty (Cut S W) g first l W := by
  obtain ⟨A, c, cells, h1, h2, h3, h4, h5⟩ := h
  refine ⟨A, c, cells, h1, ⟨h2, (Array.getElem?_eq_some_iff.1 h1).1⟩, h3, fun b hb => ⟨h4 b hb, q_block_lt h3 hb⟩, h5.imp fun j x cs _ hl => ?_⟩
  obtain ⟨A1, c1, e, ho, hs⟩ := hl
  exact ⟨A1, c1, e, ho, fun b hb => ⟨hs b hb, (own_block_ge ho b hb).2⟩⟩
theorem geI_mild {n bn bo n0 X : Nat} {most : Int} {xs : List (List UInt8)} {w : World} {k : Nat} {A B : World} (hn : n ≤ w.heap.size) (hX : X < n0) (h1 : bn ≠ X) (h2 : bo ≠ X) (h : geI n bn bo n0 most xs w k A) (hm : Mild n X A B) : geI n bn bo n0 most xs w k B := by
  obtain ⟨A1, c, cells, b1, b2, ho, hr, hb, hs, hk, hkx⟩ := h
  refine ⟨A1, c, cells, hm.box b1 h2, hm.box b2 h1, hm.own ho hX, hr.imp fun j x cs _ hR => ?_, hm.below hb hn, Nat.le_trans hs hm.size, hk, hkx⟩
  obtain ⟨A', c', e, ho', hs'⟩ := hR
  exact ⟨A', c', e, by
    rcases ho'.2 with ⟨e1, e2⟩ | ⟨g, cap, cur, hv, hg, hh, r⟩
    · exact ⟨ho'.1, .inl ⟨e1, e2⟩⟩
    · exact ⟨ho'.1, .inr ⟨g, cap, cur, hv, hg, hm.cells g _ hh rfl (by have := hs' g (by rw [hv]; rfl); omega), r⟩⟩, hs'⟩
/-- Behind the assignment to the loop's variable. -/
def geAx (g first k n bn bo n0 : Nat) (most : Int) (xs : List (List UInt8)) (j : Nat) (a' : Act) (W : World) : Prop :=
  ∃ A3 c3 x V, xs[j]? = some x ∧ V = .slice A3 x.length c3 ∧ a' = { tmps := #[.pointer (some ⟨g, 0, none⟩), .int .i64 ((first : Int) + (k : Int)), .int .i64 most, undef, undef, .pointer (some ⟨bn, 0, none⟩), .slice none 0 0, .bool false, .pointer (some ⟨bo, 0, none⟩), V, .pointer (some ⟨g, 0, none⟩), .bool false, .bool false, .int .i64 ((first : Int) + (k : Int)), .pointer (some ⟨g, 0, none⟩), .pointer (some ⟨g, 0, none⟩), .pointer (some ⟨g, 0, none⟩), .int .i64 (first : Int), .bool false, .bool false, .bool false, .int .i64 ((first : Int) + (k : Int)), .pointer (some ⟨g, 0, none⟩), .int .i64 ((first : Int) + (n : Int)), .bool false, .bool false, .pointer (some ⟨g, 0, none⟩), .int .i64 ((first : Int) + (k : Int)), .func (.func 48) #[] #[.pointer (some ⟨bo + 1, 0, none⟩), .pointer (some ⟨bo + 1 + 1, 0, none⟩)], V, undef, undef, undef, undef, undef, undef, undef, undef, undef], defers := [] } ∧ W.ownsRow n0 5 1 (.slice A3 x.length c3) x.length (u8s x) ∧ n0 ≤ W.heap.size
theorem recs_mild {n n0 X : Nat} {l : List (List UInt8)} {cells : List Value} {A B : World} (h : Recs (byRow (fun b => n0 ≤ b)) 1 A l cells) (hX : X < n0) (hm : Mild n X A B) : Recs (byRow (fun b => n0 ≤ b)) 1 B l cells := h.imp fun j x cs _ hR => by
  obtain ⟨A', c', e, ho', hs'⟩ := hR
  exact ⟨A', c', e, by
    rcases ho'.2 with ⟨e1, e2⟩ | ⟨g, cap, cur, hv, hg, hh, r⟩
    · exact ⟨ho'.1, .inl ⟨e1, e2⟩⟩
    · exact ⟨ho'.1, .inr ⟨g, cap, cur, hv, hg, hm.cells g _ hh rfl (by have := hs' g (by rw [hv]; rfl); omega), r⟩⟩, hs'⟩
theorem ge_done {w W W5 : World} {n0 X q j c1 : Nat} {xs : List (List UInt8)} {A1 : Option Addr} {cells : List Value} (hx : xs.take q = xs.take j) (hj : j ≤ xs.length) (ho : W.ownsRow n0 30 1 (.slice A1 j c1) j cells) (hr : Recs (byRow (fun b => n0 ≤ b)) 1 W (xs.take j) cells) (hb : Below w.heap.size w W) (hn : w.heap.size ≤ n0) (hX : X < n0) (hm : Mild w.heap.size X W W5) :
    RetGet (xs.take q) true w (.returned (.tuple #[.slice A1 j c1, .bool true])) W5 := by
  rw [hx]
  refine ⟨A1, j, c1, cells, rfl, by rw [List.length_take]; omega, own_lower (hm.own ho hX) hn, (recs_mild hr hX hm).imp fun j x cs _ hR => ?_, hm.below hb (Nat.le_refl _)⟩
  obtain ⟨A', c', e, ho', hs'⟩ := hR
  exact ⟨A', c', e, ho', fun b hb' => Nat.le_trans hn (hs' b hb')⟩
set_option maxHeartbeats 4000000 in
theorem get_any {S : Nat → Prop} {g first : Nat} {l : List (List UInt8)} (fr most : Int) (w : World) (h : ModAt 61 S g first l w) (hf : first ≤ 140737488355328) (hl : l.length ≤ 4398046511104) (hlen : ∀ x ∈ l, x.length ≤ 140737488355328) :
    Calls Try.prog 15 #[.pointer (some ⟨g, 0, none⟩), .int .i64 fr, .int .i64 most] w (RetGet (getL fr most first l) (getOK fr first l.length) w) := by
  have HH := Lib.hid h
  have hS : ∀ W', Below w.heap.size w W' → W'.cell? ⟨g, 0, none⟩ = some (.int .i64 (first : Int)) := fun W' hb => by
    obtain ⟨R, cr, cells, h1, _⟩ := h.below hb
    exact (mod_cells h1).1
  have HS := Lib.hid hS
  have HNX := Lib.hid (fun W (hb : Below w.heap.size w W) => next_any W (h.below hb) hf (by omega))
  obtain ⟨n, hn⟩ : ∃ n, l.length = n := ⟨_, rfl⟩
  have HN := Lib.hid hn
  have HL := Lib.hid hlen
  rw [hn] at HNX hl ⊢
  clear h hS hn hlen
  have hal : Below w.heap.size w (w.alloc (.cells #[.int .i64 most] 3)) := (Below.refl w.heap.size w).alloc (Nat.le_refl _) _
  have k0 := HS.out _ hal
  have HAL := Lib.hid hal
  clear hal
  by_cases c1 : (first : Int) ≤ fr
  · by_cases c2 : fr ≤ (first : Int) + (n : Int)
    · have hok : getOK fr first n = true := by simp [getOK]; omega
      have HV : Hid (getL fr most first l = (l.drop (fr - first).toNat).take most.toNat) := Lib.hid (by unfold getL; rw [HN.out, if_pos hok])
      rw [HV.out, hok]
      obtain ⟨k, hk⟩ : ∃ k : Nat, fr = (first : Int) + (k : Int) := ⟨(fr - first).toNat, by omega⟩
      subst hk
      have ek : ((first : Int) + (k : Int) - (first : Int)).toNat = k := by omega
      rw [ek]
      have hkn : k ≤ n := by omega
      have e1 : ¬ (first : Int) + (k : Int) < (first : Int) := by omega
      have e2 : ¬ (first : Int) + (n : Int) < (first : Int) + (k : Int) := by omega
      have e5 : ¬ n < k := by omega
      clear HV ek hok c1 c2
      refine (callsIn_wide (n := 0)).1 ?_
      refine callsIn_of_wp_marks Try.func15 rfl trivial ?_ rfl
      simp only [Try.ntmps15, List.size_toArray, List.length_cons, List.length_nil, Nat.reduceAdd, Nat.reduceSub, Array.replicate_succ, Array.replicate_zero, List.push_toArray, List.append_toArray, List.nil_append, List.cons_append]
      gi_wp2_with (first
        | (refine ⟨trivial, rfl, ?_⟩; gi_at_call 19; refine (callsIn_wide.2 (HNX.out _ HAL.out)).mono ?_; rintro e w1 ⟨rfl, hb1⟩)
        | (refine ⟨trivial, rfl, ?_⟩; gi_at_call 30; refine (callsIn_wide.2 (records_any _ _ _)).mono ?_; rintro e w2 ⟨rfl, hw2⟩)
        | fail)
      have hb1' : Below w.heap.size w w1 := below_step HAL.out HAL.out.size hb1
      obtain ⟨bo, hbo⟩ : ∃ bo, w1.heap.size = bo := ⟨_, rfl⟩
      obtain ⟨bn, hbn⟩ : ∃ bn, w.heap.size = bn := ⟨_, rfl⟩
      have hlt : bn < bo := by
        have := hb1.size
        simp at this
        omega
      have hz2 : w2.heap.size = bo + 3 := by rw [← hw2, ← hbo]; simp
      have hb2 : Below w.heap.size w w2 := by
        rw [← hw2]
        exact ((hb1'.alloc hb1'.size _).alloc (Nat.le_trans hb1'.size (by simp)) _).alloc (Nat.le_trans hb1'.size (by first | (simp; done) | (simp; omega))) _
      have x1 : Box w2 bn 3 (.int .i64 most) := by
        rw [← hw2, ← hbn]
        exact ((((Box.new w 3 (.int .i64 most)).below hb1 (by simp)).alloc _).alloc _).alloc _
      have x2 : Box w2 bo 26 (.slice none 0 0) := by
        rw [← hw2, ← hbo]
        exact ((Box.new w1 _ _).alloc _).alloc _
      have x3 : w2.cell? ⟨bo + 1, 0, none⟩ = some (.pointer (some ⟨g, 0, none⟩)) := by
        rw [← hw2, ← hbo]
        have := ((Box.new (w1.alloc (.cells #[.slice none 0 0] 26)) 23 (.pointer (some ⟨g, 0, none⟩))).alloc (.cells #[.int .i64 ((first : Int) + (k : Int))] 3)).cell
        simpa using this
      have x4 : w2.cell? ⟨bo + 1 + 1, 0, none⟩ = some (.int .i64 ((first : Int) + (k : Int))) := by
        rw [← hw2, ← hbo]
        have := (Box.new ((w1.alloc (.cells #[.slice none 0 0] 26)).alloc (.cells #[.pointer (some ⟨g, 0, none⟩)] 23)) 3 (.int .i64 ((first : Int) + (k : Int)))).cell
        simpa using this
      have hM2 : ModAt 61 (Cut S w) g first l w2 := HH.out.cut.below hb2
      rw [hbo]
      subst hbn
      clear hw2 hb1 hb1'
      refine wp_rangeX (w0 := w2) rfl (fun args w => by kernel_rfl)
        (recs_seq (k := k) (n0 := bo + 3) (fun b => b < bo + 3 ∧ b ≠ bo) w2 hf (by rw [HN.out]; exact hl) x3 x4 hM2 (fun b hb => by have := hb.2; omega) (by rw [HN.out]; exact hkn) HL.out (by omega))
        ?hSt ?hKb (Below.refl _ _) ?hps (fun j W => geI w.heap.size w.heap.size bo (bo + 3) most (l.drop k) w j W) (fun c j W => c = .exit 0 ∧ ∃ j', j' + 1 = j ∧ most ≤ (j' : Int) ∧ geI w.heap.size w.heap.size bo (bo + 3) most (l.drop k) w j' W) ?hI ?hIx ?hIs ?hIxs ?h0 (fun j a' W => geAx g first k n w.heap.size bo (bo + 3) most (l.drop k) j a' W) ?hAx ?hassign ?hbody ?hdone ?hstop
      case hSt => exact fun A B k o h => h.elim
      case hKb => exact fun b h => by omega
      case hps =>
        rintro k x args W ⟨_, _, rfl, _⟩
        rfl
      case hI => exact fun j X Y row h hg hr => geI_mild (X := bo + 1) (Nat.le_refl _) (by omega) (by omega) (by omega) h (Mild.of_grown hg (fun r e => ⟨by have := (hr r e).1; omega, (hr r e).2⟩))
      case hIx =>
        rintro c j X Y row ⟨rfl, j', h1, h2, h3⟩ hg hr
        exact ⟨rfl, j', h1, h2, geI_mild (X := bo + 1) (Nat.le_refl _) (by omega) (by omega) (by omega) h3 (Mild.of_grown hg (fun r e => ⟨by have := (hr r e).1; omega, (hr r e).2⟩))⟩
      case hIs => exact fun k A B h h' => h'.elim
      case hIxs => exact fun c k A B h h' => h'.elim
      case h0 => exact ⟨none, 0, [], x2, x1, ⟨rfl, .inl ⟨rfl, rfl⟩⟩, Recs.nil, hb2, by omega, Nat.zero_le _, Nat.zero_le _⟩
      case hAx =>
        rintro j a' ⟨⟩ X Y row ⟨A3, c3, x, V, h1, h2, h3, h4, h5⟩ hg hr
        have hm : Mild w.heap.size (bo + 1) X Y := Mild.of_grown hg (fun r e => ⟨by have := (hr r e).1; omega, (hr r e).2⟩)
        exact ⟨A3, c3, x, V, h1, h2, h3, hm.own h4 (by omega), Nat.le_trans h5 hm.size⟩
      case hassign =>
        rintro ll j x args W K hx ⟨A3, c3, rfl, hown⟩ hi hK
        have hsz : bo + 3 ≤ W.heap.size := by
          obtain ⟨_, _, _, _, _, _, _, _, h, _⟩ := hi
          exact h
        gi_wp2
        exact hK _ _ (KeepsFrom.refl _ _) (KeptOn.refl _ _) hi ⟨A3, c3, x, _, hx, rfl, rfl, hown, hsz⟩
      case hbody =>
        rintro ll j x a' W hx ⟨A1, c1, cells, b1, b2, ho, hr, hb, hs, hkm, hkx⟩ ⟨A3, c3, x', V, hx', rfl, rfl, hown3, hsz⟩
        rw [hx] at hx'
        cases hx'
        have hjl := (List.getElem?_eq_some_iff.1 hx).1
        have hjn : j ≤ n := by
          have := HN.out
          rw [List.length_drop] at hjl
          omega
        have m1 := Box.cell b1
        have m2 := Box.cell b2
        have f1 := Box.frozen b1
        by_cases hmo : most ≤ (j : Int)
        · gi_wp2
          exact ⟨KeepsFrom.refl _ _, rfl, j, rfl, hmo, A1, c1, cells, b1, b2, ho, hr, hb, hs, hkm, hkx⟩
        · gi_wp2_with (gi_at_builtin; go_loud (refine wpListIn_append_sees rfl (.tmp 34) (.tmp 36) 26 rfl (bo + 3) 30 (.slice none 0 0) 1 24 Try.underlying26 infoBytes rfl (by decide) (.slice A1 j c1) j cells rfl (own_alloc' ho _) (some ⟨W.heap.size, 0, none⟩) 1 1 [.slice A3 x.length c3] rfl rfl (sees_new _ _ _) (by simp [Value.oneCell']) (by simp only [maxLen]; omega) (by omega) (by first | (simp; done) | (simp; omega)) ?_); intro A2 c2' w3 hown2 hg2 hat2; have bx1 := (b1.alloc (.cells #[.slice A3 x.length c3] 30)).grown hg2 (fun r e => by have := (own_block_ge ho r e).1; omega); have bx2 := (b2.alloc (.cells #[.slice A3 x.length c3] 30)).grown hg2 (fun r e => by have := (own_block_ge ho r e).1; omega); have c3' := bx1.cell; have f3' := bx1.frozen)
          have hown1 := own_alloc' ho (.cells #[.slice A3 x.length c3] 30)
          refine ⟨?_, ?_, ?_⟩
          · exact (((KeepsOthers.alloc W _).trans (KeepsOthers.of_grownBy hg2 (own_cells hown1))).trans (KeepsOthers.setCell _ _ _)).from _
          · refine ((KeptOn.alloc _ ?_).trans (KeptOn.grown hg2 ?_)).trans (KeptOn.set _ ?_)
            · exact fun b h => by omega
            · exact fun b h => ⟨by simp; omega, fun e => by have := (own_block_ge ho b e.symm).1; omega⟩
            · intro h
              simp at h
          · have hkeep : ∀ {b q : Nat} {v : Value} {ys : List Value}, W.ownsRow b 5 1 v q ys → (∀ z, v.ownBlock = some z → bo + 3 ≤ z) → (w3.setCell ⟨bo, 0, none⟩ (.slice A2 (j + 1) c2')).ownsRow b 5 1 v q ys := fun h hge =>
              own_setFar (own_apart (own_alloc' h _) hown1 (by decide) hg2) _ _ (fun e => by have := hge bo e; omega)
            refine ⟨A2, c2', cells ++ [.slice A3 x.length c3], bx1.set _, bx2.far _ _ (by first | (simp; done) | (simp; omega)), ownsRow_setCell_below hown2 (by first | (simp; done) | (simp; omega)) _, ?_, ?_, ?_, by omega, hjl⟩
            · have htk : (l.drop k).take (j + 1) = (l.drop k).take j ++ [x] := by rw [List.take_succ_eq_append_getElem hjl, (List.getElem?_eq_some_iff.1 hx).2]
              rw [htk]
              refine (hr.imp fun j y cs _ hR => ?_).snoc rfl ⟨A3, c3, rfl, own_lower (hkeep hown3 (fun z hz => (own_block_ge hown3 z hz).1)) (Nat.zero_le _), fun z hz => (own_block_ge hown3 z hz).1⟩
              obtain ⟨A', c', e, ho', hs'⟩ := hR
              exact ⟨A', c', e, hkeep ho' hs', hs'⟩
            · exact (below_grown_own (hb.alloc hb.size _) (by have := hb.size; simp; omega) hown1 (by omega) hg2).setCell (by first | (simp; done) | (simp; omega)) _
            · have := hg2.size
              simp [World.setCell] at this ⊢
              omega
      case hdone =>
        rintro D W hD ⟨A1, c1, cells, b1, b2, ho, hr, hb, hs, hkm, hkx⟩ hK
        have m1 := Box.cell b1
        have hxe : (l.drop k).take most.toNat = (l.drop k).take (l.drop k).length := by rw [List.take_length, List.take_of_length_le hkm]
        have hm5 : Mild w.heap.size (bo + 1) W (W.putObj D (.deferred none)) := Mild.of_grown (grownBy_putObj' W D _) (fun r e => by cases e; exact ⟨by omega, _, hK, rfl⟩)
        have HF := Lib.hid (ge_done hxe (Nat.le_refl _) ho hr hb (by omega) (by omega) hm5)
        obtain ⟨N', hN'⟩ : ∃ N', (l.drop k).length = N' := ⟨_, rfl⟩
        rw [hN'] at m1 HF
        clear hxe hm5 ho hr b1 b2 hkm hkx hN'
        gi_wp2
        refine ⟨by simp, .inl ⟨_, _, rfl, run_takeDeferred hK, ?_⟩⟩
        exact ⟨.tuple #[.slice A1 N' c1, .bool true], by simp [results, Try.results15, go_sem], HF.out⟩
      case hstop =>
        rintro D c j W hD hj ⟨rfl, j', h1, h2, ⟨A1, c1, cells, b1, b2, ho, hr, hb, hs, hkm, hkx⟩⟩ hK
        have m1 := Box.cell b1
        have hxe : (l.drop k).take most.toNat = (l.drop k).take j' := by rw [show most.toNat = j' by omega]
        have hm5 : Mild w.heap.size (bo + 1) W (W.putObj D (.deferred none)) := Mild.of_grown (grownBy_putObj' W D _) (fun r e => by cases e; exact ⟨by omega, _, hK, rfl⟩)
        have HF := Lib.hid (ge_done hxe hkx ho hr hb (by omega) (by omega) hm5)
        clear hxe hm5 ho hr b1 b2 hkm hkx
        gi_wp2
        refine ⟨by simp, .inl ⟨_, _, rfl, run_takeDeferred hK, ?_⟩⟩
        exact ⟨.tuple #[.slice A1 j' c1, .bool true], by simp [results, Try.results15, go_sem], HF.out⟩
    · have hok : getOK fr first n = false := by simp [getOK]; omega
      have HV : Hid (getL fr most first l = []) := Lib.hid (by unfold getL; rw [HN.out, hok]; rfl)
      rw [HV.out, hok]
      have e1 : ¬ fr < (first : Int) := by omega
      have e2 : (first : Int) + (n : Int) < fr := by omega
      go_enter Try.func15, Try.ntmps15
      go_wp2_with (first
        | (go_at_call 19; refine (HNX.out _ HAL.out).mono ?_; rintro e w1 ⟨rfl, hb1⟩)
        | fail)
      go_ret2
      exact ⟨none, 0, 0, [], rfl, rfl, ⟨rfl, .inl ⟨rfl, rfl⟩⟩, Recs.nil, below_step HAL.out HAL.out.size hb1⟩
  · have hok : getOK fr first n = false := by simp [getOK]; omega
    have HV : Hid (getL fr most first l = []) := Lib.hid (by unfold getL; rw [HN.out, hok]; rfl)
    rw [HV.out, hok]
    have e1 : fr < (first : Int) := by omega
    go_enter Try.func15, Try.ntmps15
    go_wp2_with fail
    go_ret2
    exact ⟨none, 0, 0, [], rfl, rfl, ⟨rfl, .inl ⟨rfl, rfl⟩⟩, Recs.nil, HAL.out⟩
end Go.Proofs.Ytbnbeailbhnbdaa
