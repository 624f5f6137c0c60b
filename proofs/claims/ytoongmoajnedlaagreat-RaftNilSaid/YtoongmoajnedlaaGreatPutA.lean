/-
  A server whose log holds no servers: its state; put (an entry without data, behind its log): up to the new entry.
-/
import Derived.Test.YtoongmoajnedlaaGreatLone1
import Derived.Test.YtoongmoajnedlaaGreatOwnQ
import Derived.Test.YtoongmoajnedlaaGreatPhase
import Derived.Test.YtoongmoajnedlaaGreatSeqE
import Derived.Test.YtoongmoajnedlaaGreatTimA
set_option linter.unusedVariables false
set_option linter.unusedSimpArgs false
namespace Go.Proofs.YtoongmoajnedlaaGreat
open Go.RowKit

/-- What a server knows. -/
structure RSt where
  peers : Value
  places : Value
  round : Int
  beat : Int
  book : Value
  A : Option Addr
  n : Nat
  c : Nat
  commit : Int
  B : Option Addr
  d : Nat
  is : List Int
  id : Int
  term : Int
  voted : Int
  role : Int
  leader : Int
  tg : Nat
  yes : Value
  O : Option Addr
  m : Nat
  co : Nat
def RSt.vs (s : RSt) : List Value :=
  [s.peers, s.places, .int .i64 s.round, .int .i64 s.beat, s.book, .int .i64 0, .int .i64 0, .slice s.A s.n s.c, .int .i64 s.commit, .slice s.B s.is.length s.d, .int .i64 0, .int .i64 0, .slice none 0 0, .slice none 0 0,
    .int .i64 6, .int .i64 2, .int .i64 3, .int .i64 s.id, .int .i64 s.term, .int .i64 s.voted, .int .i64 s.role, .int .i64 s.leader, .pointer (some ⟨s.tg, 0, none⟩), s.yes, .int .i64 0, .int .i64 0, .slice none 0 0, .slice none 0 0,
    .int .i64 0, .int .i64 0, .slice s.O s.m s.co, .slice none 0 0, .slice none 0 0, .slice none 0 0, .int .i64 0]
/-- It lies in block r. -/
structure Lone (W : World) (b0 r : Nat) (s : RSt) (cells ops : List Value) : Prop where
  at_ : RAt W r s.vs
  log : W.ownsRow b0 110 4 (.slice s.A s.n s.c) s.n cells
  ops : W.ownsRow b0 186 3 (.slice s.O s.m s.co) s.m ops
  base : W.ownsRow b0 3 1 (.slice s.B s.is.length s.d) s.is.length (s.is.map i64v)
  head : ∀ i : Int, HeadE i cells s.n
  n4 : s.n ≤ 4096
  m4 : s.m ≤ 1000000
  l7 : s.is.length ≤ 7
  bz : b0 ≤ W.heap.size
section
variable {W W' : World} {b0 r : Nat} {s : RSt} {cells ops : List Value}
theorem Lone.logAt (h : Lone W b0 r s cells ops) : LogAt W r 0 s.A s.n s.c cells s.B s.d s.is :=
  { c5 := h.at_.cell (j := 5) rfl
    c7 := h.at_.cell (j := 7) rfl
    c9 := h.at_.cell (j := 9) rfl
    len := h.log.1
    see := (sees_own' h.log).2.2.2
    head := h.head
    sees := (sees_own' h.base).2.2.2
    ld := (sees_own' h.base).2.1
    l8 := h.l7
    n4 := h.n4
    b0 := Int.le_refl _
    b1 := by decide }
theorem last_below {base : Int} {A : Option Addr} {n c : Nat} {cells : List Value} {B : Option Addr} {d : Nat} {is : List Int} (w : World) (h : LogAt w r base A n c cells B d is) : Calls Tryz.prog 71 #[.pointer (some ⟨r, 5, none⟩)] w (fun e w' => e = .returned (.int .i64 (base + (n : Int))) ∧ Below w.heap.size w w') :=
  (last_any' w h).mono fun e w' ⟨h1, nq, h2⟩ => ⟨h1, by rw [h2]; exact below_draws (Below.refl _ _) nq⟩
theorem Lone.below (h : Lone W b0 r s cells ops) (hb : Below W.heap.size W W') : Lone W' b0 r s cells ops :=
  { h with at_ := h.at_.below hb, log := own_keep h.log hb, ops := own_keep h.ops hb, base := own_keep h.base hb, bz := Nat.le_trans h.bz hb.size }
theorem Lone.set (h : Lone W b0 r s cells ops) (j : Nat) (v : Value) (s' : RSt) (hv : s'.vs = s.vs.set j v) (hs : (s'.A, s'.n, s'.c, s'.B, s'.d, s'.is, s'.O, s'.m, s'.co) = (s.A, s.n, s.c, s.B, s.d, s.is, s.O, s.m, s.co)) :
    Lone (W.setCell ⟨r, j, none⟩ v) b0 r s' cells ops := by
  simp only [Prod.mk.injEq] at hs
  obtain ⟨e1, e2, e3, e4, e5, e6, e7, e8, e9⟩ := hs
  refine ⟨by rw [hv]; exact h.at_.set j v, ?_, ?_, ?_, by rw [e2]; exact h.head, by rw [e2]; exact h.n4, by rw [e8]; exact h.m4, by rw [e6]; exact h.l7, by simp [World.setCell]; exact h.bz⟩
  · rw [e1, e2, e3]
    exact own_setFar h.log _ _ (own_far h.log h.at_ (by decide))
  · rw [e7, e8, e9]
    exact own_setFar h.ops _ _ (own_far h.ops h.at_ (by decide))
  · rw [e4, e5, e6]
    exact own_setFar h.base _ _ (own_far h.base h.at_ (by decide))
theorem ent4 {g : Nat} {v0 v1 v2 v3 : Value} {ty : TypeId} (h : W.heap[g]? = some (.cells #[v0, v1, v2, v3] ty (0, 0))) : W.cell? ⟨g, 0, none⟩ = some v0 ∧ W.cell? ⟨g, 1, none⟩ = some v1 ∧ W.cell? ⟨g, 2, none⟩ = some v2 ∧ W.cell? ⟨g, 3, none⟩ = some v3 ∧ ∀ j, W.frozen? ⟨g, j, none⟩ = false :=
  ⟨by rw [cell_of_row _ _ 0 _ _ _ h]; rfl, by rw [cell_of_row _ _ 1 _ _ _ h]; rfl, by rw [cell_of_row _ _ 2 _ _ _ h]; rfl, by rw [cell_of_row _ _ 3 _ _ _ h]; rfl, frozen_of_cells h⟩
theorem below_set4 {B g : Nat} {w : World} {v0 v1 v2 v3 : Value} (h : Below B w W) (hg : B ≤ g) : Below B w ((((W.setCell ⟨g, 0, none⟩ v0).setCell ⟨g, 1, none⟩ v1).setCell ⟨g, 2, none⟩ v2).setCell ⟨g, 3, none⟩ v3) :=
  (((h.setCell (p := ⟨g, 0, none⟩) hg _).setCell (p := ⟨g, 1, none⟩) hg _).setCell (p := ⟨g, 2, none⟩) hg _).setCell (p := ⟨g, 3, none⟩) hg _
theorem heap_set4 {g : Nat} {u0 u1 u2 u3 v0 v1 v2 v3 : Value} {ty : TypeId} (h : W.heap[g]? = some (.cells #[u0, u1, u2, u3] ty (0, 0))) : ((((W.setCell ⟨g, 0, none⟩ v0).setCell ⟨g, 1, none⟩ v1).setCell ⟨g, 2, none⟩ v2).setCell ⟨g, 3, none⟩ v3).heap[g]? = some (.cells #[v0, v1, v2, v3] ty (0, 0)) := by
  simp [World.setCell, Array.getElem?_modify, h]
theorem below_alloc1 (w : World) (o : Obj) : Below w.heap.size w (w.drew.alloc o) := ((Below.refl _ w).drew).alloc (Nat.le_refl _) _
theorem fourAt_app {cells : List Value} {n k : Nat} {t x kd : Int} {Ad : Option Addr} {nd cd : Nat} (hl : cells.length = n * 4) : (k < n → fourAt (cells ++ four t x kd Ad nd cd) k = fourAt cells k) ∧ fourAt (cells ++ four t x kd Ad nd cd) n = four t x kd Ad nd cd := by
  unfold fourAt
  constructor
  · intro hk
    rw [List.drop_append_of_le_length (by omega), List.take_append_of_le_length (by rw [List.length_drop]; omega)]
  · rw [← hl, List.drop_left]
    rfl
theorem Lone.app {W2 : World} {t x k : Int} {A9 A3 : Option Addr} {n c9 n3 c3 : Nat} (h : Lone W b0 r s cells ops) (hnn : s.n = n) (ho : W2.ownsRow b0 110 4 (.slice A9 (n + 1) c9) (n + 1) (cells ++ four t x k A3 n3 c3)) (hg : W.grownBy W2 (Value.slice s.A n s.c).ownBlock) (hk : k ≠ 3) (hn : n < 4096) :
    Lone (W2.setCell ⟨r, 7, none⟩ (.slice A9 (n + 1) c9)) b0 r { s with A := A9, n := n + 1, c := c9 } (cells ++ four t x k A3 n3 c3) ops := by
  subst hnn
  have ha : RAt W2 r s.vs := (hg.block r h.at_.lt (fun e => own_far h.log h.at_ (by decide) e.symm)).trans h.at_
  have ho2 := own_apart h.ops h.log (by decide) hg
  have hb2 := own_apart h.base h.log (by decide) hg
  refine ⟨ha.set 7 _, own_setFar ho _ _ (own_far ho ha (by decide)), own_setFar ho2 _ _ (own_far ho2 ha (by decide)), own_setFar hb2 _ _ (own_far hb2 ha (by decide)), ?_, by show s.n + 1 ≤ 4096; omega, h.m4, h.l7, Nat.le_trans h.bz (by simpa [World.setCell] using hg.size)⟩
  intro i j hj
  have hj' : j < s.n + 1 := hj
  rcases Nat.lt_or_ge j s.n with h1 | h1
  · rw [(fourAt_app h.log.1).1 h1]
    exact h.head i j h1
  · obtain rfl : j = s.n := by omega
    exact ⟨t, x, k, A3, n3, c3, (fourAt_app (k := 0) h.log.1).2, fun _ => hk⟩
theorem Lone.appOp {W2 : World} {A9 : Option Addr} {m c9 : Nat} {news : List Value} (h : Lone W b0 r s cells ops) (hmm : s.m = m) (ho : W2.ownsRow b0 186 3 (.slice A9 (m + 1) c9) (m + 1) (ops ++ news)) (hg : W.grownBy W2 (Value.slice s.O m s.co).ownBlock) (hn : m < 1000000) :
    Lone (W2.setCell ⟨r, 30, none⟩ (.slice A9 (m + 1) c9)) b0 r { s with O := A9, m := m + 1, co := c9 } cells (ops ++ news) := by
  subst hmm
  have ha : RAt W2 r s.vs := (hg.block r h.at_.lt (fun e => own_far h.ops h.at_ (by decide) e.symm)).trans h.at_
  have ho2 := own_apart h.log h.ops (by decide) hg
  have hb2 := own_apart h.base h.ops (by decide) hg
  exact ⟨ha.set 30 _, own_setFar ho2 _ _ (own_far ho2 ha (by decide)), own_setFar ho _ _ (own_far ho ha (by decide)), own_setFar hb2 _ _ (own_far hb2 ha (by decide)), h.head, h.n4, by show s.m + 1 ≤ 1000000; omega, h.l7, Nat.le_trans h.bz (by simpa [World.setCell] using hg.size)⟩
theorem below_alloc2 (w : World) (o : Obj) : Below w.heap.size w (w.alloc o).drew := ((Below.refl _ w).alloc (Nat.le_refl _) _).drew
theorem below_alloc3 (w : World) (o o' : Obj) : Below w.heap.size w ((w.alloc o).alloc o').drew := ((((Below.refl _ w).alloc (Nat.le_refl _) _).alloc (by simp) _)).drew
theorem infoOp : (Tryz.prog.info? 186).map (fun i => (i.zero, i.size, i.bytes)) = some (some (.agg #[.int .i64 0, .slice none 0 0, .pointer none]), 3, 40) := by kernel_rfl
theorem sees_new2 (w : World) (o : Obj) (cs : Array Value) (e : TypeId) : Sees ((w.alloc o).alloc (.cells cs e)).drew (some ⟨w.heap.size + 1, 0, none⟩) cs.toList := by
  have h := sees_new (w.alloc o) cs e
  rw [World.size_alloc] at h
  exact h
/-- An entry was put behind the log. -/
def RetPutR (b0 r : Nat) (s : RSt) (cells ops : List Value) (k : Int) (w : World) (e : Ending) (w' : World) : Prop :=
  ∃ (A9 : Option Addr) (c9 : Nat) (A3 : Option Addr) (c3 : Nat) (O9 : Option Addr) (co9 : Nat) (news : List Value), e = .returned (.tuple #[.int .i64 ((s.n : Int) + 1), .int .i64 0]) ∧
    Lone w' b0 r { s with A := A9, n := s.n + 1, c := c9, O := O9, m := s.m + 1, co := co9 } (cells ++ four s.term ((s.n : Int) + 1) k A3 0 c3) (ops ++ news) ∧ Outside (fun b => b = r ∨ (Value.slice s.A s.n s.c).ownBlock = some b ∨ (Value.slice s.O s.m s.co).ownBlock = some b) w w'
theorem Outside.grown {S : Nat → Prop} {W0 W W' : World} {row : Option Nat} (h : Outside S W0 W) (hg : W.grownBy W' row) (hr : ∀ b, row = some b → S b) : Outside S W0 W' := by
  have h2 : Outside S W W' := ⟨hg.os, hg.tape, hg.output, hg.size, fun b hb hs => hg.block b hb (fun e => hs (hr b e.symm))⟩
  exact h.trans h2 (fun b _ h => h)
/-- The blocks that a server's deeds may turn. -/
def Lone.Own (s : RSt) (r : Nat) (b : Nat) : Prop := b = r ∨ (Value.slice s.A s.n s.c).ownBlock = some b ∨ (Value.slice s.O s.m s.co).ownBlock = some b
/-- A new entry lies in block bx. -/
def NewE (w : World) (t i k : Int) (s8 : Value) (wc : World) : Prop :=
  ∃ (bx : Nat) (A3 : Option Addr) (c3 : Nat), s8 = .pointer (some ⟨bx, 0, none⟩) ∧ wc.heap[bx]? = some (.cells #[.int .i64 t, .int .i64 i, .int .i64 k, .slice A3 0 c3] 110 (0, 0)) ∧ w.heap.size ≤ bx ∧ Below w.heap.size w wc
end
end Go.Proofs.YtoongmoajnedlaaGreat
/-
  put: an entry without data, behind the log of a server.
-/
set_option linter.unusedVariables false
set_option linter.unusedSimpArgs false
namespace Go.Proofs.YtoongmoajnedlaaGreat
open Go.RowKit

set_option maxRecDepth 16384 in
set_option maxHeartbeats 4000000 in
theorem put_any {b0 r : Nat} {s : RSt} {cells ops : List Value} (k : Int) (w : World) (h : Lone w b0 r s cells ops) (hn : s.n < 4096) (hm : s.m < 1000000) (hk : k ≠ 3) :
    Calls Tryz.prog 61 #[.pointer (some ⟨r, 0, none⟩), .int .i64 k, .slice none 0 0] w (RetPutR b0 r s cells ops k w) := by
  obtain ⟨n, hnn⟩ : ∃ n, s.n = n := ⟨_, rfl⟩
  have c7 := h.at_.cell (j := 7) rfl
  have c18 := h.at_.cell (j := 18) rfl
  rw [hnn] at c7 hn
  have HNN := Lib.hid hnn
  have HML := Lib.hid hm
  have H := Lib.hid h
  have HL := Lib.hid (fun w' (hb : Below w.heap.size w w') => last_below w' (h.logAt.below hb))
  obtain ⟨t, ht⟩ : ∃ t, s.term = t := ⟨_, rfl⟩
  rw [ht] at c18
  rw [hnn] at HL
  have HT := Lib.hid ht
  clear h hnn ht hm
  have g1 : ¬ (4096 : Int) ≤ (n : Int) := by omega
  go_enter Tryz.func61, Tryz.ntmps61
  go_upto_region 3 with fail
  go_cut [8] from 18 to 30 (fun s8 wc => NewE w t ((n : Int) + 1) k s8 wc)
  case first =>
    have hrl : r < w.heap.size := World.block_lt_of_cell? _ _ c18
    have HK : Hid (∀ W', Below w.heap.size w W' → Below w.heap.size w W' ∧ W'.cell? ⟨r, 18, none⟩ = some (.int .i64 t)) := Lib.hid (fun W' hb => ⟨hb, (hb.cell hrl).trans c18⟩)
    have bd : Below w.heap.size w w.drew := (Below.refl _ _).drew
    have ba : Below w.heap.size w (w.alloc (.cells zeros4 110)).drew := ((Below.refl _ _).alloc (Nat.le_refl _) _).drew
    have HRW : Hid ((w.alloc (.cells zeros4 110)).drew.heap[w.heap.size]? = some (.cells zeros4 110 (0, 0))) := Lib.hid (heap_alloc_new w _)
    have HCL := Lib.hid (fun w' => clone_q none 0 0 [] w' rfl (Nat.le_refl _) (Nat.zero_le _) (Sees.nil _ _))
    unfold RetOwn at HCL
    have hwr : IntKind.i64.wrap ((n : Int) + 1) = (n : Int) + 1 := IntWalk.i64_in _ (by omega)
    unfold zeros4 at ba HRW
    clear c7 hrl g1
    go_region_held3 (fun W' => Below w.heap.size w W' ∧ W'.cell? ⟨r, 18, none⟩ = some (.int .i64 t))
      (first
        | (refine HK.out _ ?_; assumption)
        | (refine HK.out _ ?_; exact Below.alloc (show Below w.heap.size w _ by assumption) (Below.size (by assumption)) _)
        | (refine HK.out _ ?_; exact below_set4 (by assumption) (by first | exact Nat.le_refl _ | exact Below.size (by assumption)))
        | fail)
      (first
        | (go_at_call 71; refine (HL.out _ (by assumption)).mono ?_; rintro e w3 ⟨rfl, hb3⟩; have hb3' := below_step (show Below w.heap.size w _ by assumption) (Below.size (by assumption)) hb3; try (have hrow3 := (hb3.block w.heap.size (Array.getElem?_eq_some_iff.1 HRW.out).1).trans HRW.out))
        | (go_at_call 108; refine (HCL.out _).mono ?_; rintro e w4 ⟨A3, c3, rfl, hown4, hb4⟩; (first
          | (have hb4' := below_step (show Below w.heap.size w _ by assumption) (Below.size (by assumption)) hb4; try (have hrow4 := (hb4.block w.heap.size (Array.getElem?_eq_some_iff.1 hrow3).1).trans hrow3; obtain ⟨d0, d1, d2, d3, df⟩ := ent4 hrow4))
          | (have hb4' := below_step (Below.alloc (show Below w.heap.size w _ by assumption) (Below.size (by assumption)) _) (Below.size (Below.alloc (show Below w.heap.size w _ by assumption) (Below.size (by assumption)) _)) hb4; have hrow5 := (hb4.block _ (Array.getElem?_eq_some_iff.1 (heap_alloc_new _ _)).1).trans (heap_alloc_new _ _); obtain ⟨d0, d1, d2, d3, df⟩ := ent4 hrow5));
            clear hown4)
        | fail)
    · go_wp2_with fail
      go_meet
      case rel => exact ⟨_, A3, c3, rfl, heap_alloc_new _ _, hb4'.size, hb4'.alloc hb4'.size _⟩
    · go_wp2_with fail
      go_meet
      case rel => exact ⟨_, A3, c3, rfl, heap_set4 hrow5, hb3'.size, below_set4 hb4' hb3'.size⟩
    · go_wp2_with fail
      go_meet
      case rel => exact ⟨_, A3, c3, rfl, heap_set4 hrow4, Nat.le_refl _, below_set4 hb4' (Nat.le_refl _)⟩
  case rest =>
    obtain ⟨bx, A3, c3, rfl, hbx, hge, hb⟩ := hcut
    have h4 := H.out.below hb
    have HB := Lib.hid hb
    have HBX := Lib.hid hbx
    have HGE := Lib.hid hge
    have HSB : Hid (∀ W', Below wc.heap.size wc W' → W'.cell? ⟨r, 7, none⟩ = some (.slice s.A n s.c) ∧ W'.cell? ⟨bx, 0, none⟩ = some (.int .i64 t) ∧ W'.cell? ⟨bx, 1, none⟩ = some (.int .i64 ((n : Int) + 1)) ∧ W'.cell? ⟨bx, 2, none⟩ = some (.int .i64 k) ∧ W'.cell? ⟨bx, 3, none⟩ = some (.slice A3 0 c3)) := Lib.hid (fun W' hb' => by
      have h9 := ent4 ((hb'.block bx (Array.getElem?_eq_some_iff.1 hbx).1).trans hbx)
      exact ⟨(hb'.cell (World.block_lt_of_cell? _ _ (h4.at_.cell (j := 7) rfl))).trans (by rw [← HNN.out]; exact h4.at_.cell (j := 7) rfl), h9.1, h9.2.1, h9.2.2.1, h9.2.2.2.1⟩)
    have H4 := Lib.hid h4
    clear h4 hb hbx hge g1 c7 c18
    go_upto_region 4 with fail
    have hS4 := HSB.out wc.drew (Below.refl _ _).drew
    have HSA := HSB
    have HLG : Hid (∀ W', Below wc.heap.size wc W' → W'.ownsRow b0 110 4 (.slice s.A n s.c) n cells) := Lib.hid (fun W' hb' => by rw [← HNN.out]; exact own_keep H4.out.log hb')
    have HBZ := Lib.hid H4.out.bz
    have HSR : Hid (∀ W' W'', Below wc.heap.size wc W' → W'.grownBy W'' (Value.slice s.A n s.c).ownBlock → RAt W'' r s.vs) := Lib.hid (fun W' W'' hb' hg' => (hg'.block r (H4.out.below hb').at_.lt (fun e => by rw [← HNN.out] at e; exact own_far (H4.out.below hb').log (H4.out.below hb').at_ (by decide) e.symm)).trans (H4.out.below hb').at_)
    have HSG : Hid (∀ W' W'', Below wc.heap.size wc W' → W'.grownBy W'' (Value.slice s.A n s.c).ownBlock → W''.cell? ⟨r, 7, none⟩ = some (.slice s.A n s.c) ∧ W''.cell? ⟨bx, 0, none⟩ = some (.int .i64 t) ∧ W''.cell? ⟨bx, 1, none⟩ = some (.int .i64 ((n : Int) + 1)) ∧ W''.cell? ⟨bx, 2, none⟩ = some (.int .i64 k) ∧ W''.cell? ⟨bx, 3, none⟩ = some (.slice A3 0 c3)) := Lib.hid (fun W' W'' hb' hg' => by
      have h4' := H4.out.below hb'
      have hb9 : W'.heap[bx]? = some (.cells #[.int .i64 t, .int .i64 ((n : Int) + 1), .int .i64 k, .slice A3 0 c3] 110 (0, 0)) := (hb'.block bx (Array.getElem?_eq_some_iff.1 HBX.out).1).trans HBX.out
      have h9 := ent4 ((hg'.block bx (Array.getElem?_eq_some_iff.1 hb9).1 (fun e => by
        rw [← HNN.out] at e
        have h1 := (own_block_ge H.out.log bx e.symm).2
        have := HGE.out
        omega)).trans hb9)
      have ha : RAt W'' r s.vs := (hg'.block r h4'.at_.lt (fun e => by rw [← HNN.out] at e; exact own_far h4'.log h4'.at_ (by decide) e.symm)).trans h4'.at_
      exact ⟨by rw [← HNN.out]; exact ha.cell (j := 7) rfl, h9.1, h9.2.1, h9.2.2.1, h9.2.2.2.1⟩)
    refine wp_region_T 14 (fun W' => W'.cell? ⟨r, 7, none⟩ = some (.slice s.A n s.c) ∧ W'.cell? ⟨bx, 0, none⟩ = some (.int .i64 t) ∧ W'.cell? ⟨bx, 1, none⟩ = some (.int .i64 ((n : Int) + 1)) ∧ W'.cell? ⟨bx, 2, none⟩ = some (.int .i64 k) ∧ W'.cell? ⟨bx, 3, none⟩ = some (.slice A3 0 c3)) (by kernel_rfl) ?_
--R4
    refine wpAnyT_take (i := 0) (v := ?va0) rfl (by kernel_rfl) (by kernel_rfl) (by kernel_rfl) (by kernel_rfl) (fun _ _ _ h => h) rfl (fun w' hS => ?ya0) hS4 ?za0
    case ya0 => (obtain ⟨s0, s1, s2, s3, s4⟩ := hS; go_simp; with_reducible rfl)
    try simp only [Act.put, List.getElem_toArray, List.getElem_cons_zero, List.getElem_cons_succ, List.setIfInBounds_toArray, List.set_cons_zero, List.set_cons_succ]
    refine wpAnyT_take (i := 1) (v := ?va1) rfl (by kernel_rfl) (by kernel_rfl) (by kernel_rfl) (by kernel_rfl) (fun _ _ _ h => h) rfl (fun w' hS => ?ya1) hS4 ?za1
    case ya1 => (obtain ⟨s0, s1, s2, s3, s4⟩ := hS; go_simp; with_reducible rfl)
    try simp only [Act.put, List.getElem_toArray, List.getElem_cons_zero, List.getElem_cons_succ, List.setIfInBounds_toArray, List.set_cons_zero, List.set_cons_succ]
    refine wpAnyT_take (i := 2) (v := ?va2) rfl (by kernel_rfl) (by kernel_rfl) (by kernel_rfl) (by kernel_rfl) (fun _ _ _ h => h) rfl (fun w' hS => ?ya2) hS4 ?za2
    case ya2 => (obtain ⟨s0, s1, s2, s3, s4⟩ := hS; go_simp; with_reducible rfl)
    try simp only [Act.put, List.getElem_toArray, List.getElem_cons_zero, List.getElem_cons_succ, List.setIfInBounds_toArray, List.set_cons_zero, List.set_cons_succ]
    refine wpAnyT_take (i := 3) (v := ?va3) rfl (by kernel_rfl) (by kernel_rfl) (by kernel_rfl) (by kernel_rfl) (fun _ _ _ h => h) rfl (fun w' hS => ?ya3) hS4 ?za3
    case ya3 => (obtain ⟨s0, s1, s2, s3, s4⟩ := hS; go_simp; with_reducible rfl)
    try simp only [Act.put, List.getElem_toArray, List.getElem_cons_zero, List.getElem_cons_succ, List.setIfInBounds_toArray, List.set_cons_zero, List.set_cons_succ]
    refine wpAnyT_take (i := 4) (v := ?va4) rfl (by kernel_rfl) (by kernel_rfl) (by kernel_rfl) (by kernel_rfl) (fun _ _ _ h => h) rfl (fun w' hS => ?ya4) hS4 ?za4
    case ya4 => (obtain ⟨s0, s1, s2, s3, s4⟩ := hS; go_simp; with_reducible rfl)
    try simp only [Act.put, List.getElem_toArray, List.getElem_cons_zero, List.getElem_cons_succ, List.setIfInBounds_toArray, List.set_cons_zero, List.set_cons_succ]
    refine wpAnyT_take (i := 5) (v := ?va5) rfl (by kernel_rfl) (by kernel_rfl) (by kernel_rfl) (by kernel_rfl) (fun _ _ _ h => h) rfl (fun w' hS => ?ya5) hS4 ?za5
    case ya5 => (obtain ⟨s0, s1, s2, s3, s4⟩ := hS; go_simp; with_reducible rfl)
    try simp only [Act.put, List.getElem_toArray, List.getElem_cons_zero, List.getElem_cons_succ, List.setIfInBounds_toArray, List.set_cons_zero, List.set_cons_succ]
    refine wpAnyT_take (i := 6) (v := ?va6) rfl (by kernel_rfl) (by kernel_rfl) (by kernel_rfl) (by kernel_rfl) (fun _ _ _ h => h) rfl (fun w' hS => ?ya6) hS4 ?za6
    case ya6 => (obtain ⟨s0, s1, s2, s3, s4⟩ := hS; go_simp; with_reducible rfl)
    try simp only [Act.put, List.getElem_toArray, List.getElem_cons_zero, List.getElem_cons_succ, List.setIfInBounds_toArray, List.set_cons_zero, List.set_cons_succ]
    refine wpAnyT_take (i := 7) (v := ?va7) rfl (by kernel_rfl) (by kernel_rfl) (by kernel_rfl) (by kernel_rfl) (fun _ _ _ h => h) rfl (fun w' hS => ?ya7) hS4 ?za7
    case ya7 => (obtain ⟨s0, s1, s2, s3, s4⟩ := hS; go_simp; with_reducible rfl)
    try simp only [Act.put, List.getElem_toArray, List.getElem_cons_zero, List.getElem_cons_succ, List.setIfInBounds_toArray, List.set_cons_zero, List.set_cons_succ]
    refine wpAnyT_one (i := 8) (by kernel_rfl) rfl (fun K' hK => ?_)
    have HK9 := Lib.hid hK
    clear hK
    go_simp
    refine HK9.out _ _ (.inr (HSA.out _ (below_alloc1 _ _))) ?_
    clear HK9
    try simp only [Act.put, List.getElem_toArray, List.getElem_cons_zero, List.getElem_cons_succ, List.setIfInBounds_toArray, List.set_cons_zero, List.set_cons_succ]
    refine wpAnyT_one (i := 9) (by kernel_rfl) rfl (fun K' hK => ?_)
    have HK9 := Lib.hid hK
    clear hK
    refine step_append_sees rfl (.tmp 37) (.tmp 39) 28 (by rfl) b0 110 (.agg zeros4) 4 48 Tryz.underlying28 infoE rfl (by decide) (.slice s.A n s.c) n cells (by rfl) (HLG.out _ (below_alloc1 _ _)) (some ⟨wc.heap.size, 0, none⟩) 1 1 (four t ((n : Int) + 1) k A3 0 c3) (by rfl) rfl (by exact sees_new _ _ _) (by simp [four, Value.oneCell']) (by simp only [maxLen]; omega) (by omega) (by have := HBZ.out; simp; omega) ?_
    intro A9 c9 w9 hown9 hg9 hat9
    have HOWN9 := Lib.hid hown9
    have HG9 := Lib.hid hg9
    have hS9 := HSG.out _ w9 (below_alloc1 _ _) hg9
    have hf9 := (HSR.out _ w9 (below_alloc1 _ _) hg9).frozen 7
    clear hown9 hat9
    refine HK9.out _ _ (.inr hS9) ?_
    clear HK9
    try simp only [Act.put, List.getElem_toArray, List.getElem_cons_zero, List.getElem_cons_succ, List.setIfInBounds_toArray, List.set_cons_zero, List.set_cons_succ]
    refine wpAnyT_one (i := 10) (by kernel_rfl) rfl (fun K' hK => ?_)
    have HK9 := Lib.hid hK
    clear hK
    go_simp
    refine HK9.out _ _ (.inr hS9) ?_
    clear HK9
    try simp only [Act.put, List.getElem_toArray, List.getElem_cons_zero, List.getElem_cons_succ, List.setIfInBounds_toArray, List.set_cons_zero, List.set_cons_succ]
    refine wpAnyT_one (i := 11) (by kernel_rfl) rfl (fun K' hK => ?_)
    have HK9 := Lib.hid hK
    clear hK
    go_simp
    refine HK9.out _ _ (.inr hS9) ?_
    clear HK9
    try simp only [Act.put, List.getElem_toArray, List.getElem_cons_zero, List.getElem_cons_succ, List.setIfInBounds_toArray, List.set_cons_zero, List.set_cons_succ]
    refine wpAnyT_one (i := 12) (by kernel_rfl) rfl (fun K' hK => ?_)
    have HK9 := Lib.hid hK
    clear hK
    go_simp
    refine HK9.out _ _ (.inr hS9) ?_
    clear HK9
    try simp only [Act.put, List.getElem_toArray, List.getElem_cons_zero, List.getElem_cons_succ, List.setIfInBounds_toArray, List.set_cons_zero, List.set_cons_succ]
    refine wpAnyT_one (i := 13) (by kernel_rfl) rfl (fun K' hK => ?_)
    have HK9 := Lib.hid hK
    clear hK
    go_simp
    refine HK9.out _ _ (.inr hS9) ?_
    clear HK9
    try simp only [Act.put, List.getElem_toArray, List.getElem_cons_zero, List.getElem_cons_succ, List.setIfInBounds_toArray, List.set_cons_zero, List.set_cons_succ]
    refine wpAnyT_one (i := 14) (by kernel_rfl) rfl (fun K' hK => ?_)
    have HK9 := Lib.hid hK
    clear hK
    go_simp
    refine HK9.out _ _ (.inl rfl) ?_
    clear HK9
    try simp only [Act.put, List.getElem_toArray, List.getElem_cons_zero, List.getElem_cons_succ, List.setIfInBounds_toArray, List.set_cons_zero, List.set_cons_succ]
    refine wpAnyT_done (by kernel_rfl) ?_ _
--R4E
    obtain ⟨w10, hw10⟩ : ∃ w10, w9.setCell ⟨r, 7, none⟩ (.slice A9 (n + 1) c9) = w10 := ⟨_, rfl⟩
    have HC := Lib.hid (H4.out.below (below_alloc2 wc (.cells #[.int .i64 t, .int .i64 ((n : Int) + 1), .int .i64 k, .slice A3 0 c3] 110)))
    have HL10 : Hid (Lone w10 b0 r { s with A := A9, n := n + 1, c := c9 } (cells ++ four t ((n : Int) + 1) k A3 0 c3) ops) := Lib.hid (by
      rw [← hw10]
      exact HC.out.app HNN.out HOWN9.out HG9.out hk hn)
    have HF10 : Hid (Outside (Lone.Own s r) w w10) := Lib.hid (by
      rw [← hw10]
      refine Outside.set (Outside.grown ((Outside.of_below HB.out).trans (Outside.of_below (S := Lone.Own s r) (below_alloc2 wc _)) (fun _ _ h => h)) HG9.out (fun b hb => .inr (.inl ?_))) _ _ (.inr (.inl rfl))
      rw [HNN.out]
      exact hb)
    have HBX10 : Hid (w10.heap[bx]? = some (.cells #[.int .i64 t, .int .i64 ((n : Int) + 1), .int .i64 k, .slice A3 0 c3] 110 (0, 0))) := Lib.hid (by
      rw [← hw10]
      have hr : r < w.heap.size := H.out.at_.lt
      have hge := HGE.out
      refine (Below.heap_setCell _ _ _ _ (show bx ≠ r by omega)).trans ?_
      have hlt := (Array.getElem?_eq_some_iff.1 HBX.out).1
      have h1 := ((below_alloc2 wc (.cells #[.int .i64 t, .int .i64 ((n : Int) + 1), .int .i64 k, .slice A3 0 c3] 110)).block bx hlt).trans HBX.out
      refine (HG9.out.block bx (Array.getElem?_eq_some_iff.1 h1).1 (fun e => ?_)).trans h1
      rw [← HNN.out] at e
      have := (own_block_ge H.out.log bx e.symm).2
      omega)
    rw [hw10]
    clear hw10 hg9 hS9 hf9 hS4 HOWN9 HG9 HSG HSR HLG HSA HSB HBZ HC HBX H4 HB HL
    clear hn
    obtain ⟨k0, k1, k2, k3, kf⟩ := ent4 HBX10.out
    obtain ⟨gy, hgy⟩ : ∃ gy, w10.heap.size = gy := ⟨_, rfl⟩
    obtain ⟨w11, hw11⟩ : ∃ w11, w10.alloc (.cells #[.int .i64 t, .int .i64 ((n : Int) + 1), .int .i64 k, .slice A3 0 c3] 110) = w11 := ⟨_, rfl⟩
    have hy11 : w11.heap[gy]? = some (.cells #[.int .i64 t, .int .i64 ((n : Int) + 1), .int .i64 k, .slice A3 0 c3] 110 (0, 0)) := by rw [← hw11, ← hgy]; exact heap_alloc_new _ _
    have hb11 : Below w10.heap.size w10 w11 := by rw [← hw11]; exact (Below.refl _ _).alloc (Nat.le_refl _) _
    have HW11 := Lib.hid hw11
    have HGY := Lib.hid hgy
    have HY11 := Lib.hid hy11
    have HB11 := Lib.hid hb11
    clear hy11 hb11 hw11 hgy
    go_upto_region 6 with fail
    rw [HW11.out]
    rw [HGY.out]
    clear k0 k1 k2 k3 kf
    go_upto_region 7 with (first
      | (go_at_call 108; refine (clone_q none 0 0 [] _ rfl (Nat.le_refl _) (Nat.zero_le _) (Sees.nil _ _)).mono ?_; rintro e w12 ⟨A4, c4, rfl, hown4, hb12⟩; have hy12 := (hb12.block gy (Array.getElem?_eq_some_iff.1 HY11.out).1).trans HY11.out; have HY12 := Lib.hid hy12; have HB12 := Lib.hid hb12; have d3 := (ent4 hy12).2.2.2.1; have df := (ent4 hy12).2.2.2.2 3; clear hown4 hb12 hy12)
      | fail)
    obtain ⟨w13, hw13⟩ : ∃ w13, w12.setCell ⟨gy, 3, none⟩ (.slice A4 0 c4) = w13 := ⟨_, rfl⟩
    have hy13 : w13.heap[gy]? = some (.cells #[.int .i64 t, .int .i64 ((n : Int) + 1), .int .i64 k, .slice A4 0 c4] 110 (0, 0)) := by
      rw [← hw13]
      simp [World.setCell, Array.getElem?_modify, HY12.out]
    have hb13 : Below w10.heap.size w10 w13 := by rw [← hw13]; exact (below_step HB11.out HB11.out.size HB12.out).setCell (p := ⟨gy, 3, none⟩) (by show _ ≤ gy; rw [HGY.out]; exact Nat.le_refl _) _
    rw [hw13]
    have hl13 := HL10.out.below hb13
    obtain ⟨m, hm⟩ : ∃ m, s.m = m := ⟨_, rfl⟩
    have HM := Lib.hid hm
    have HM4 := Lib.hid HL10.out.m4
    have HY13 := Lib.hid hy13
    have HB13 := Lib.hid hb13
    have HL13 := Lib.hid hl13
    have HSB : Hid (∀ W', Below w13.heap.size w13 W' → W'.cell? ⟨r, 30, none⟩ = some (.slice s.O m s.co) ∧ W'.cell? ⟨gy, 0, none⟩ = some (.int .i64 t) ∧ W'.cell? ⟨gy, 1, none⟩ = some (.int .i64 ((n : Int) + 1)) ∧ W'.cell? ⟨gy, 2, none⟩ = some (.int .i64 k) ∧ W'.cell? ⟨gy, 3, none⟩ = some (.slice A4 0 c4)) := Lib.hid (fun W' hb' => by
      have h9 := ent4 ((hb'.block gy (Array.getElem?_eq_some_iff.1 hy13).1).trans hy13)
      exact ⟨by rw [← hm]; exact (hl13.below hb').at_.cell (j := 30) rfl, h9.1, h9.2.1, h9.2.2.1, h9.2.2.2.1⟩)
    have HLG : Hid (∀ W', Below w13.heap.size w13 W' → W'.ownsRow b0 186 3 (.slice s.O m s.co) m ops) := Lib.hid (fun W' hb' => by rw [← hm]; exact own_keep hl13.ops hb')
    have HBZ := Lib.hid hl13.bz
    have HSR : Hid (∀ W' W'', Below w13.heap.size w13 W' → W'.grownBy W'' (Value.slice s.O m s.co).ownBlock → RAt W'' r (RSt.vs { s with A := A9, n := n + 1, c := c9 })) := Lib.hid (fun W' W'' hb' hg' => by
      have h9 := hl13.below hb'
      exact (hg'.block r h9.at_.lt (fun e => by rw [← hm] at e; exact own_far h9.ops h9.at_ (by decide) e.symm)).trans h9.at_)
    have HSG : Hid (∀ W' W'', Below w13.heap.size w13 W' → W'.grownBy W'' (Value.slice s.O m s.co).ownBlock → W''.cell? ⟨r, 30, none⟩ = some (.slice s.O m s.co) ∧ W''.cell? ⟨gy, 0, none⟩ = some (.int .i64 t) ∧ W''.cell? ⟨gy, 1, none⟩ = some (.int .i64 ((n : Int) + 1)) ∧ W''.cell? ⟨gy, 2, none⟩ = some (.int .i64 k) ∧ W''.cell? ⟨gy, 3, none⟩ = some (.slice A4 0 c4)) := Lib.hid (fun W' W'' hb' hg' => by
      have h9 := hl13.below hb'
      have hy9 := (hb'.block gy (Array.getElem?_eq_some_iff.1 hy13).1).trans hy13
      have h8 := ent4 ((hg'.block gy (Array.getElem?_eq_some_iff.1 hy9).1 (fun e => by rw [← hm] at e; exact own_far h9.ops hy9 (by decide) e.symm)).trans hy9)
      exact ⟨by rw [← hm]; exact (HSR.out W' W'' hb' hg').cell (j := 30) rfl, h8.1, h8.2.1, h8.2.2.1, h8.2.2.2.1⟩)
    have hm4 : m ≤ 1000000 := by rw [← hm]; exact HM4.out
    clear hw13 hy13 hb13 hl13 hm d3 df
    have hS4 := HSB.out w13.drew (Below.refl _ _).drew
    refine wp_region_T 14 (fun W' => W'.cell? ⟨r, 30, none⟩ = some (.slice s.O m s.co) ∧ W'.cell? ⟨gy, 0, none⟩ = some (.int .i64 t) ∧ W'.cell? ⟨gy, 1, none⟩ = some (.int .i64 ((n : Int) + 1)) ∧ W'.cell? ⟨gy, 2, none⟩ = some (.int .i64 k) ∧ W'.cell? ⟨gy, 3, none⟩ = some (.slice A4 0 c4)) (by kernel_rfl) ?_
--R7
    refine wpAnyT_take (i := 0) (v := ?vb0) rfl (by kernel_rfl) (by kernel_rfl) (by kernel_rfl) (by kernel_rfl) (fun _ _ _ h => h) rfl (fun w' hS => ?yb0) hS4 ?zb0
    case yb0 => (obtain ⟨s0, s1, s2, s3, s4⟩ := hS; go_simp; with_reducible rfl)
    try simp only [Act.put, List.getElem_toArray, List.getElem_cons_zero, List.getElem_cons_succ, List.setIfInBounds_toArray, List.set_cons_zero, List.set_cons_succ]
    refine wpAnyT_take (i := 1) (v := ?vb1) rfl (by kernel_rfl) (by kernel_rfl) (by kernel_rfl) (by kernel_rfl) (fun _ _ _ h => h) rfl (fun w' hS => ?yb1) hS4 ?zb1
    case yb1 => (obtain ⟨s0, s1, s2, s3, s4⟩ := hS; go_simp; with_reducible rfl)
    try simp only [Act.put, List.getElem_toArray, List.getElem_cons_zero, List.getElem_cons_succ, List.setIfInBounds_toArray, List.set_cons_zero, List.set_cons_succ]
    refine wpAnyT_take (i := 2) (v := ?vb2) rfl (by kernel_rfl) (by kernel_rfl) (by kernel_rfl) (by kernel_rfl) (fun _ _ _ h => h) rfl (fun w' hS => ?yb2) hS4 ?zb2
    case yb2 => (obtain ⟨s0, s1, s2, s3, s4⟩ := hS; go_simp; with_reducible rfl)
    try simp only [Act.put, List.getElem_toArray, List.getElem_cons_zero, List.getElem_cons_succ, List.setIfInBounds_toArray, List.set_cons_zero, List.set_cons_succ]
    refine wpAnyT_take (i := 3) (v := ?vb3) rfl (by kernel_rfl) (by kernel_rfl) (by kernel_rfl) (by kernel_rfl) (fun _ _ _ h => h) rfl (fun w' hS => ?yb3) hS4 ?zb3
    case yb3 => (obtain ⟨s0, s1, s2, s3, s4⟩ := hS; go_simp; with_reducible rfl)
    try simp only [Act.put, List.getElem_toArray, List.getElem_cons_zero, List.getElem_cons_succ, List.setIfInBounds_toArray, List.set_cons_zero, List.set_cons_succ]
    refine wpAnyT_take (i := 4) (v := ?vb4) rfl (by kernel_rfl) (by kernel_rfl) (by kernel_rfl) (by kernel_rfl) (fun _ _ _ h => h) rfl (fun w' hS => ?yb4) hS4 ?zb4
    case yb4 => (obtain ⟨s0, s1, s2, s3, s4⟩ := hS; go_simp; with_reducible rfl)
    try simp only [Act.put, List.getElem_toArray, List.getElem_cons_zero, List.getElem_cons_succ, List.setIfInBounds_toArray, List.set_cons_zero, List.set_cons_succ]
    refine wpAnyT_take (i := 5) (v := ?vb5) rfl (by kernel_rfl) (by kernel_rfl) (by kernel_rfl) (by kernel_rfl) (fun _ _ _ h => h) rfl (fun w' hS => ?yb5) hS4 ?zb5
    case yb5 => (obtain ⟨s0, s1, s2, s3, s4⟩ := hS; go_simp; with_reducible rfl)
    try simp only [Act.put, List.getElem_toArray, List.getElem_cons_zero, List.getElem_cons_succ, List.setIfInBounds_toArray, List.set_cons_zero, List.set_cons_succ]
    refine wpAnyT_take (i := 6) (v := ?vb6) rfl (by kernel_rfl) (by kernel_rfl) (by kernel_rfl) (by kernel_rfl) (fun _ _ _ h => h) rfl (fun w' hS => ?yb6) hS4 ?zb6
    case yb6 => (obtain ⟨s0, s1, s2, s3, s4⟩ := hS; go_simp; with_reducible rfl)
    try simp only [Act.put, List.getElem_toArray, List.getElem_cons_zero, List.getElem_cons_succ, List.setIfInBounds_toArray, List.set_cons_zero, List.set_cons_succ]
    refine wpAnyT_one (i := 7) (by kernel_rfl) rfl (fun K' hK => ?_)
    have HK9 := Lib.hid hK
    clear hK
    go_simp
    refine HK9.out _ _ (.inr (HSB.out _ (below_alloc1 _ _))) ?_
    clear HK9
    try simp only [Act.put, List.getElem_toArray, List.getElem_cons_zero, List.getElem_cons_succ, List.setIfInBounds_toArray, List.set_cons_zero, List.set_cons_succ]
    refine wpAnyT_one (i := 8) (by kernel_rfl) rfl (fun K' hK => ?_)
    have HK9 := Lib.hid hK
    clear hK
    go_simp
    refine HK9.out _ _ (.inr (HSB.out _ (below_alloc2 _ _))) ?_
    clear HK9
    try simp only [Act.put, List.getElem_toArray, List.getElem_cons_zero, List.getElem_cons_succ, List.setIfInBounds_toArray, List.set_cons_zero, List.set_cons_succ]
    refine wpAnyT_one (i := 9) (by kernel_rfl) rfl (fun K' hK => ?_)
    have HK9 := Lib.hid hK
    clear hK
    go_simp
    refine HK9.out _ _ (.inr (HSB.out _ (below_alloc3 _ _ _))) ?_
    clear HK9
    try simp only [Act.put, List.getElem_toArray, List.getElem_cons_zero, List.getElem_cons_succ, List.setIfInBounds_toArray, List.set_cons_zero, List.set_cons_succ]
    refine wpAnyT_one (i := 10) (by kernel_rfl) rfl (fun K' hK => ?_)
    have HK9 := Lib.hid hK
    clear hK
    refine step_append_sees rfl (.tmp 54) (.tmp 58) 40 (by rfl) b0 186 (.agg #[.int .i64 0, .slice none 0 0, .pointer none]) 3 40 Tryz.underlying40 infoOp rfl (by decide) (.slice s.O m s.co) m ops (by rfl) (HLG.out _ (below_alloc3 _ _ _)) (some ⟨w13.heap.size + 1, 0, none⟩) 1 1 [.int .i64 0, .slice (some ⟨w13.heap.size, 0, none⟩) 1 1, .pointer none] (by rfl) rfl (by exact sees_new2 _ _ _ _) (by simp [Value.oneCell']) (by simp only [maxLen]; omega) (by omega) (by have := HBZ.out; simp; omega) ?_
    intro A14 c14 w14 hown9 hg9 hat9
    have HOWN14 := Lib.hid hown9
    have HG14 := Lib.hid hg9
    have hS9 := HSG.out _ w14 (below_alloc3 _ _ _) hg9
    have hf9 := (HSR.out _ w14 (below_alloc3 _ _ _) hg9).frozen 30
    clear hown9 hat9
    refine HK9.out _ _ (.inr hS9) ?_
    clear HK9
    try simp only [Act.put, List.getElem_toArray, List.getElem_cons_zero, List.getElem_cons_succ, List.setIfInBounds_toArray, List.set_cons_zero, List.set_cons_succ]
    refine wpAnyT_one (i := 11) (by kernel_rfl) rfl (fun K' hK => ?_)
    have HK9 := Lib.hid hK
    clear hK
    go_simp
    refine HK9.out _ _ (.inr hS9) ?_
    clear HK9
    try simp only [Act.put, List.getElem_toArray, List.getElem_cons_zero, List.getElem_cons_succ, List.setIfInBounds_toArray, List.set_cons_zero, List.set_cons_succ]
    refine wpAnyT_one (i := 12) (by kernel_rfl) rfl (fun K' hK => ?_)
    have HK9 := Lib.hid hK
    clear hK
    go_simp
    refine HK9.out _ _ (.inr hS9) ?_
    clear HK9
    try simp only [Act.put, List.getElem_toArray, List.getElem_cons_zero, List.getElem_cons_succ, List.setIfInBounds_toArray, List.set_cons_zero, List.set_cons_succ]
    refine wpAnyT_one (i := 13) (by kernel_rfl) rfl (fun K' hK => ?_)
    have HK9 := Lib.hid hK
    clear hK
    go_simp
    refine HK9.out _ _ (.inr hS9) ?_
    clear HK9
    try simp only [Act.put, List.getElem_toArray, List.getElem_cons_zero, List.getElem_cons_succ, List.setIfInBounds_toArray, List.set_cons_zero, List.set_cons_succ]
    refine wpAnyT_one (i := 14) (by kernel_rfl) rfl (fun K' hK => ?_)
    have HK9 := Lib.hid hK
    clear hK
    go_simp
    refine HK9.out _ _ (.inl rfl) ?_
    clear HK9
    try simp only [Act.put, List.getElem_toArray, List.getElem_cons_zero, List.getElem_cons_succ, List.setIfInBounds_toArray, List.set_cons_zero, List.set_cons_succ]
    refine wpAnyT_done (by kernel_rfl) ?_ _
--R7E
    obtain ⟨w15, hw15⟩ : ∃ w15, w14.setCell ⟨r, 30, none⟩ (.slice A14 (m + 1) c14) = w15 := ⟨_, rfl⟩
    have ha3 := below_alloc3 w13 (.cells #[.int .i64 t, .int .i64 ((n : Int) + 1), .int .i64 k, .slice A4 0 c4] 110) (.cells #[.int .i64 0, .slice (some ⟨w13.heap.size, 0, none⟩) 1 1, .pointer none] 186)
    have HC := Lib.hid (HL13.out.below ha3)
    have HL15 : Hid (Lone w15 b0 r { s with A := A9, n := n + 1, c := c9, O := A14, m := m + 1, co := c14 } (cells ++ four t ((n : Int) + 1) k A3 0 c3) (ops ++ [.int .i64 0, .slice (some ⟨w13.heap.size, 0, none⟩) 1 1, .pointer none])) := Lib.hid (by
      rw [← hw15]
      exact HC.out.appOp HM.out HOWN14.out HG14.out (by rw [← HM.out]; exact HML.out))
    have HF15 : Hid (Outside (Lone.Own s r) w w15) := Lib.hid (by
      rw [← hw15]
      refine Outside.set (Outside.grown ((HF10.out.trans (Outside.of_below (S := Lone.Own s r) HB13.out) (fun _ _ h => h)).trans (Outside.of_below (S := Lone.Own s r) ha3) (fun _ _ h => h)) HG14.out (fun b hb => .inr (.inr ?_))) _ _ (.inr (.inl rfl))
      rw [HM.out]
      exact hb)
    have k1 : w15.cell? ⟨bx, 1, none⟩ = some (.int .i64 ((n : Int) + 1)) := by
      rw [← hw15]
      have hb9 := (ha3.block bx (Nat.lt_of_lt_of_le (Array.getElem?_eq_some_iff.1 HBX10.out).1 HB13.out.size)).trans ((HB13.out.block bx (Array.getElem?_eq_some_iff.1 HBX10.out).1).trans HBX10.out)
      have hb14 := (HG14.out.block bx (Array.getElem?_eq_some_iff.1 hb9).1 (fun e => by rw [← HM.out] at e; exact own_far HC.out.ops hb9 (by decide) e.symm)).trans hb9
      have hr : r < w.heap.size := H.out.at_.lt
      have hge := HGE.out
      exact (ent4 ((Below.heap_setCell _ _ _ _ (show bx ≠ r by omega)).trans hb14)).2.1
    rw [hw15]
    clear hw15 ha3 hg9 hS9 hf9 hS4 HOWN14 HG14 HSG HSR HLG HSB HBZ HC HL13 HB13 HY13 HL10 HF10 hm4
    go_wp2_with fail
    go_ret2
    exact ⟨A9, c9, A3, c3, A14, c14, _, by rw [HNN.out]; rfl, by have h9 := HL15.out; rw [← HT.out] at h9; rw [HNN.out, HM.out]; exact h9, HF15.out⟩
end Go.Proofs.YtoongmoajnedlaaGreat
