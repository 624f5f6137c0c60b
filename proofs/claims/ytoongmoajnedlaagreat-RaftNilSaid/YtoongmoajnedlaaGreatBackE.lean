/-
  slices.Backward of entries: their cells, from the end.
-/
import Derived.Test.YtoongmoajnedlaaGreatBack8
import Derived.Test.YtoongmoajnedlaaGreatEnt1
import Derived.Test.YtoongmoajnedlaaGreatRange
set_option linter.unusedVariables false
set_option linter.unusedSimpArgs false
namespace Go.Proofs.YtoongmoajnedlaaGreat
open Go.RowKit

theorem wpListIn_load_far {F : Fence} {n' : Nat} {P : Program} {ops : Array Oper} {rest : List Oper} {op : Oper} {a : Act} {w : World} {Q : Exit → Act → World → Prop} (hgd : op.guard = none) (ty : TypeId) (x : Operand) (ho : op.op = .load ty x)
    (p : Addr) (hx : a.eval x = .pointer (some p)) (cs : List Value) (d : TypeDesc) (hc : ∀ j v, cs[j]? = some v → w.cell? (p.add j) = some v)
    (hu : P.underlying ty = some d) (hd : d.isRow = true) (hi : (P.info? ty).map (·.size) = some cs.length)
    (h : wpListIn F n' P ops Q rest (a.put op.dst (.agg cs.toArray)) w) : wpListIn F n' P ops Q (op :: rest) a w := by
  refine wpListIn_plain hgd fun K hK => ?_
  have hl : (loadCells p cs.length).run P w = .ok cs.toArray w := run_loadCells_list (P := P) w p cs hc
  have hr : (loadVar ty p).run P w = .ok (.agg cs.toArray) w := by
    cases hq : P.info? ty with
    | none => simp [hq] at hi
    | some i =>
      have hs : i.size = cs.length := by simpa [hq] using hi
      have hagg : (isAgg ty).run P w = .ok true w := by
        unfold isAgg
        rw [Sem.run_bind, run_underlying hu w]
        cases d <;> simp_all
      simp [loadVar, Sem.run_bind, hagg, sizeOf, typeInfo, hq, hs, hl]
  unfold Oper.wpIn
  refine ⟨?_, ?_⟩
  · simp [Oper.about, ho]
  · rw [Oper.semAt_plain F _ _ (by rw [ho]; intro c hc'; cases hc')]
    unfold execOp
    simp only [ho, hx, Instr.loadAt, Instr.sureAddr, Sem.run_bind, Sem.run_pure, Result.andThen_ok, hr]
    exact hK _ _ h
theorem backE_any (v : Value) (hv : v.oneCell' = true) (w : World) : Calls Tryz.prog 124 #[v] w fun e w' => e = .returned (.func (.func 163) #[] #[.pointer (some ⟨w.heap.size, 0, none⟩)]) ∧ w.alloc (.cells #[v] 28) = w' := by
  cases v <;> first | cases hv | skip
  all_goals
    go_enter Tryz.func124, Tryz.ntmps124
    go_wp2
    try go_ret
    try exact ⟨rfl, rfl⟩
/-- The four cells of the entry at i. -/
def fourAt (cells : List Value) (i : Nat) : List Value := (cells.drop (i * 4)).take 4
theorem fourAt_length {cells : List Value} {n i : Nat} (h : cells.length = n * 4) (hi : i < n) : (fourAt cells i).length = 4 := by simp [fourAt]; omega
theorem fourAt_get {cells : List Value} {i j : Nat} {v : Value} (h : (fourAt cells i)[j]? = some v) : cells[i * 4 + j]? = some v ∧ j < 4 := by
  unfold fourAt at h
  rw [List.getElem?_take] at h
  split at h
  · rw [List.getElem?_drop] at h
    exact ⟨h, by assumption⟩
  · cases h
def backX (cells : List Value) (n : Nat) : List (Nat × List Value) := (List.range n).map fun k => (n - 1 - k, fourAt cells (n - 1 - k))
theorem backX_length (cells : List Value) (n : Nat) : (backX cells n).length = n := by simp [backX]
theorem backX_get {cells : List Value} {n k : Nat} (hk : k < n) : (backX cells n)[k]? = some (n - 1 - k, fourAt cells (n - 1 - k)) := by
  unfold backX
  rw [List.getElem?_map, List.getElem?_range hk]
  rfl
def backXE (k : Nat) (x : Nat × List Value) (args : Array Value) (W : World) : Prop := args = #[.int .i64 (x.1 : Int), .agg x.2.toArray]
/-- A row of entries behind a box. -/
def OrdSeeE (Kb : Nat → Prop) (B : Nat) (A : Option Addr) (n c : Nat) (cells : List Value) (W : World) : Prop :=
  W.cell? ⟨B, 0, none⟩ = some (.slice A n c) ∧ cells.length = n * 4 ∧ Sees W A cells ∧ Kb B ∧ (0 < n → ∀ ad, A = some ad → Kb ad.block)
theorem OrdSeeE.keep {Kb : Nat → Prop} {B n c : Nat} {A : Option Addr} {cells : List Value} {W W' : World} (h : OrdSeeE Kb B A n c cells W) (hk : ∀ b, b < W.heap.size → Kb b → W'.heap[b]? = W.heap[b]?) : OrdSeeE Kb B A n c cells W' := by
  obtain ⟨h1, h2, h3, h4, h5⟩ := h
  refine ⟨?_, h2, fun j u hj => ?_, h4, h5⟩
  · rw [World.cell?_of_block (hk _ (World.block_lt_of_cell? _ _ h1) h4)]
    exact h1
  · obtain ⟨ad, e, hc⟩ := h3 j u hj
    refine ⟨ad, e, ?_⟩
    rw [World.cell?_of_block (hk _ (World.block_lt_of_cell? _ _ hc) (by rw [add_blk]; exact h5 (by have := (List.getElem?_eq_some_iff.1 hj).1; omega) ad e))]
    exact hc
theorem OrdSeeE.get {Kb : Nat → Prop} {B n c i : Nat} {A : Option Addr} {cells : List Value} {W : World} (h : OrdSeeE Kb B A n c cells W) (hi : i < n) : ∃ ad, A = some ad ∧ ∀ j v, (fourAt cells i)[j]? = some v → W.cell? ((ad.add (i * 4)).add j) = some v := by
  obtain ⟨h1, h2, h3, h4, h5⟩ := h
  obtain ⟨ad, e, _⟩ := h3 (i * 4) _ (List.getElem?_eq_getElem (by omega))
  refine ⟨ad, e, fun j v hj => ?_⟩
  obtain ⟨ad', e', hc⟩ := h3 (i * 4 + j) v (fourAt_get hj).1
  rw [e] at e'
  cases e'
  rw [add_at]
  exact hc
def backRelE (Kb : Nat → Prop) (B : Nat) (A : Option Addr) (n c : Nat) (cells : List Value) (J : Nat → World → Prop) (at_ : Value) (wr : World) : Prop :=
  ∃ k : Nat, at_ = .int .i64 ((n : Int) - 1 - (k : Int)) ∧ k ≤ n ∧ OrdSeeE Kb B A n c cells wr ∧ J k wr
set_option maxRecDepth 16384 in
set_option maxHeartbeats 4000000 in
theorem backE_seq (Kb : Nat → Prop) (B : Nat) (A : Option Addr) (n c : Nat) (cells : List Value) (w : World) (h : OrdSeeE Kb B A n c cells w) (hn : n ≤ 140737488355328) :
    SeqX Tryz.prog 163 #[.pointer (some ⟨B, 0, none⟩)] backXE (backX cells n) NoStep Kb w := by
  intro ll J Jx W hW hJ hJx hY h0
  have hs := h.keep (W' := W) (fun b hlt _ => hW.block b hlt)
  have hlen := h.2.1
  have hb := hs.1
  have HST : Hid (backRelE Kb B A n c cells J (.int .i64 ((n : Int) - 1)) W) := Lib.hid ⟨0, by go_num, Nat.zero_le _, hs, h0⟩
  have HJ := Lib.hid hJ
  have HJx := Lib.hid hJx
  have HY := Lib.hid hY
  have HLN := Lib.hid hlen
  clear hJ hJx hY h0 hs h hW hlen
  refine callsIn_wide.2 ?_
  go_enter Tryz.func163, Tryz.ntmps163
  go_wp2_with fail
  go_loopw [3] (fun at_ wr => backRelE Kb B A n c cells J at_ wr) (fun at_ _ => (intOf at_ + 1).toNat)
  case atStart => exact HST.out
  case round =>
    obtain ⟨k, rfl, hk, hs, hj⟩ := hrel
    by_cases hi : k < n
    · obtain ⟨i, hii⟩ : ∃ i : Nat, (n : Int) - 1 - (k : Int) = (i : Int) := ⟨n - 1 - k, by omega⟩
      rw [hii]
      have hin : i < n := by omega
      have hini : (i : Int) < (n : Int) := by omega
      have hi0 : (0 : Int) ≤ (i : Int) := by omega
      obtain ⟨ad, rfl, hc⟩ := hs.get hin
      have hbx := hs.1
      obtain ⟨cs, hcs⟩ : ∃ cs, fourAt cells i = cs := ⟨_, rfl⟩
      have hl4 : cs.length = 4 := by rw [← hcs]; exact fourAt_length HLN.out hin
      rw [hcs] at hc
      have HC := Lib.hid hc
      have HL4 : Hid ((Tryz.prog.info? 110).map (·.size) = some cs.length) := Lib.hid (by rw [hl4]; kernel_rfl)
      have hx : (backX cells n)[k]? = some (i, cs) := by
        have := backX_get (cells := cells) hi
        rw [show n - 1 - k = i by omega, hcs] at this
        exact this
      have HX := Lib.hid hx
      have HS := Lib.hid hs
      have HII := Lib.hid hii
      clear hx hs hii hc hcs hl4
      go_upto_region 3 with fail
      refine (wpIn_wide (n := 0)).1 ?_
      obtain ⟨fn, tm, asg, bod, hy, hR⟩ := HY.out k (i, cs) wr #[.int .i64 (i : Int), .agg cs.toArray] hj HX.out rfl
      gi_wp2_with (first
        | (refine wpListIn_load_far rfl 110 _ rfl (ad.add (i * 4)) rfl cs _ HC.out Tryz.underlying110 rfl HL4.out ?_)
        | (refine ⟨rfl, ?_⟩; refine hR.mono ?_; rintro e w4 h4; obtain ⟨b, rfl, hb4⟩ := rec_ways h4; clear h4)
        | fail)
      have hlen1 : k + 1 ≤ (backX cells n).length := (List.getElem?_eq_some_iff.1 HX.out).1
      rcases hb4.out with ⟨rfl, hj4, hk4⟩ | ⟨rfl, hx4⟩
      · have HS4 : Hid (OrdSeeE Kb B (some ad) n c cells w4) := Lib.hid (HS.out.keep fun b hlt hb => hk4.2 b hb)
        have HJ4 := Lib.hid hj4
        clear hj4 hk4 hj hy hR
        go_wp2
        go_roundw
        case rel =>
          refine ⟨k + 1, ?_, hi, HS4.out, HJ4.out⟩
          have := HII.out
          rw [show (n : Int) - 1 - ((k + 1 : Nat) : Int) = (i : Int) - 1 by omega]
        case measure => simp [intOf]
      · go_wp2
        refine bodyPost_ret (results_none rfl _ _ _) rfl ?_
        exact ⟨⟨_, rfl⟩, .inr ⟨k + 1, hlen1, hx4⟩⟩
    · have hni : ¬ (0 : Int) ≤ (n : Int) - 1 - (k : Int) := by omega
      obtain rfl : k = n := by omega
      go_wp2_with fail
      go_end0
      refine ⟨⟨_, rfl⟩, .inl ?_⟩
      rw [backX_length]
      exact hj
end Go.Proofs.YtoongmoajnedlaaGreat
