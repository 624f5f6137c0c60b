/-
  slices.Delete of one letter.
-/
import Derived.Test.YtfhmdphcgcmaeaaNet6
import Derived.Laws.CopyRow
import Derived.StillTailTactics
set_option linter.unusedVariables false
set_option linter.unusedSimpArgs false
namespace Go.Proofs.Ytfhmdphcgcmaeaa
open Go.RowKit

section
variable {P : Program}
theorem step_append_row {ops : Array Oper} {o : Oper} {a : Act} {w : World} {K : Act → World → Prop} {Q : Exit → Act → World → Prop} {E : Prop}
    (hg : o.guard = none) (s x : Operand) (t : TypeId) (hop : o.op = Op.call { callee := Callee.builtin Builtin.append, args := #[s, x], argTypes := #[t, t] })
    (e : TypeId) (i : TypeInfo) (size : Nat) (h1 : P.underlying t = some (.slice e)) (h2 : P.info? e = some i) (h4 : i.size = size)
    (g n cap : Nat) (cur : Array Value) (hcur : w.heap[g]? = some (.cells cur e (0, 0))) (hs : a.eval s = .slice (some ⟨g, 0, none⟩) n cap)
    (ad : Addr) (m c : Nat) (news : List Value) (hx : a.eval x = .slice (some ad) m c) (hn : news.length = m * size) (hc : ∀ j u, news[j]? = some u → w.cell? (ad.add j) = some u) (h1c : ∀ u ∈ news, u.oneCell' = true)
    (hroom : n + m ≤ cap) (hfit : n * size + news.length ≤ cur.size)
    (hK : K (a.put o.dst (.slice (some ⟨g, 0, none⟩) (n + m) cap)) (w.setRow g (cur.toList.take (n * size) ++ news ++ cur.toList.drop (n * size + news.length)).toArray)) :
    if Region.wanted o (yielded ops a.tmps) = true then Oper.wp P o a w K Q else E := by
  have hw : Region.wanted o (yielded ops a.tmps) = true := by simp [Region.wanted, hg]
  rw [if_pos hw]
  subst h4
  have hrun := run_append_room (P := P) w t o.type e i h1 h2 g n cap cur hcur ad m c news hn hc h1c hroom hfit
  unfold Oper.wp execOp
  simp only [hop, resolve, invoke, builtin, Sem.run_bind, Sem.run_pure, Result.andThen_ok, List.map_toArray, List.map_cons, List.map_nil, hs, hx, hrun]
  exact hK
/-- 'clear' of a part of a row. -/
theorem run_clear_row (w : World) (t ty e : TypeId) (i : TypeInfo) (z : Value) (ht : P.underlying t = some (.slice e)) (hi : P.info? e = some i) (hz : i.zero = some z)
    (g off m c : Nat) (cur : Array Value) (hcur : w.heap[g]? = some (.cells cur e (0, 0))) (zs : List Value) (hzs : (Builtin.zeroCells z.cells m).toList = zs) (h1 : ∀ u ∈ zs, u.oneCell' = true) (hm : m ≠ 0) (hfit : off + zs.length ≤ cur.size) :
    (Builtin.clear_ #[t] ty #[.slice (some ⟨g, off, none⟩) m c]).run P w = .ok (.tuple #[]) (w.setRow g (cur.toList.take off ++ zs ++ cur.toList.drop (off + zs.length)).toArray) := by
  have hst := run_storeCells_at (P := P) g off e zs 0 cur w hcur (by simpa using hfit) h1
  simp only [Nat.add_zero] at hst
  have hzv : (zeroValue e).run P w = .ok z w := by simp [zeroValue, typeInfo, hi, hz]
  unfold Builtin.clear_
  cases m with
  | zero => exact absurd rfl hm
  | succ m => simp [run_underlying ht, hzv, hzs, hst, Result.andThen]
theorem wpList_clear_row {ops : Array Oper} {rest : List Oper} {o : Oper} {a : Act} {Q : Exit → Act → World → Prop} {w : World} (hgd : o.guard = none) (s : Operand) (t : TypeId)
    (ho : o.op = .call { callee := .builtin .clear, args := #[s], argTypes := #[t] }) (e : TypeId) (i : TypeInfo) (z : Value) (ht : P.underlying t = some (.slice e)) (hi : P.info? e = some i) (hz : i.zero = some z)
    (g off m c : Nat) (cur : Array Value) (hcur : w.heap[g]? = some (.cells cur e (0, 0))) (hs : a.eval s = .slice (some ⟨g, off, none⟩) m c) (zs : List Value) (hzs : (Builtin.zeroCells z.cells m).toList = zs) (h1 : ∀ u ∈ zs, u.oneCell' = true) (hm : m ≠ 0) (hfit : off + zs.length ≤ cur.size)
    (h : wpList P ops Q rest (a.put o.dst (.tuple #[])) (w.setRow g (cur.toList.take off ++ zs ++ cur.toList.drop (off + zs.length)).toArray)) : wpList P ops Q (o :: rest) a w := by
  refine wpList_plain hgd fun K hK => ?_
  have hr := run_clear_row (P := P) w t o.type e i z ht hi hz g off m c cur hcur zs hzs h1 hm hfit
  unfold Oper.wp execOp
  simp only [ho, resolve, invoke, builtin, Sem.run_bind, Sem.run_pure, Result.andThen_ok, List.map_toArray, List.map_cons, List.map_nil, hs, hr]
  exact hK _ _ h
end
/-- Behind slices.Delete of the kth of n letters. -/
def RetDel (gr n c k : Nat) (cur : Array Value) (w : World) (e : Ending) (w' : World) : Prop :=
  e = .returned (.slice (some ⟨gr, 0, none⟩) (n - 1) c) ∧ Outside (· = gr) w w' ∧ ∃ cur', w'.heap[gr]? = some (.cells cur' 33 (0, 0)) ∧ cur'.size = c * 3 ∧ cur'.toList.take ((n - 1) * 3) = cur.toList.take (k * 3) ++ (cur.toList.take (n * 3)).drop ((k + 1) * 3)
set_option maxHeartbeats 1000000 in
theorem delete_any (gr n c k : Nat) (cur : Array Value) (w : World) (hg : w.heap[gr]? = some (.cells cur 33 (0, 0))) (hcur : cur.size = c * 3) (hn : n ≤ c) (hk : k < n) (hc : c ≤ maxLen) (hone : ∀ u ∈ (cur.toList.take (n * 3)), u.oneCell' = true) :
    Calls Try.prog 29 #[.slice (some ⟨gr, 0, none⟩) n c, .int .i64 (k : Int), .int .i64 ((k : Int) + 1)] w (RetDel gr n c k cur w) := by
  unfold maxLen at hc
  obtain ⟨X, hX, eX⟩ := slice_from (P := Try.prog) 57 3 Try.underlying57 (by kernel_rfl) ⟨gr, 0, none⟩ n c (k + 1) ((k : Int) + 1) (by omega) (by omega)
  have hne : ((k : Int) == (k : Int) + 1) = false := by simp; omega
  go_enter Try.func29, Try.ntmps29
  go_wp2
  obtain ⟨news, hnews⟩ : ∃ news, (cur.toList.take (n * 3)).drop ((k + 1) * 3) = news := ⟨_, rfl⟩
  have hnl : news.length = (n - (k + 1)) * 3 := by rw [← hnews]; simp; omega
  have hsee : ∀ W' : World, W'.heap[gr]? = some (.cells cur 33 (0, 0)) → ∀ j u, news[j]? = some u → W'.cell? (X.add j) = some u := by
    intro W' hW' j u hu
    have hj : j < news.length := (List.getElem?_eq_some_iff.1 hu).1
    rw [eX, if_neg (by omega), add_at, add_base, cell_of_row W' _ _ _ _ _ hW']
    rw [← hnews, List.getElem?_drop, List.getElem?_take] at hu
    split at hu
    · simpa using hu
    · cases hu
  have hone' : ∀ u ∈ news, u.oneCell' = true := fun u hu => hone u (by rw [← hnews] at hu; exact List.mem_of_mem_drop hu)
  obtain ⟨i0, hi, hz0, hz1, hz2⟩ := info_three infoLetter
  have hkc : k ≤ c := by omega
  have HN := Lib.hid hnews
  have EX := Lib.hid eX
  have HI := Lib.hid hi
  have HL := Lib.hid hnl
  clear hnews eX hi hnl
  go_region_law (first
    | (refine step_append_row rfl (.tmp 22) (.tmp 25) 57 (by rfl) 33 i0 3 Try.underlying57 HI.out hz1 gr k c cur (by exact hg) (by rfl) X (n - (k + 1)) (c - (k + 1)) news (by rfl) HL.out (by exact hsee _ (by exact hg)) hone' (by omega) (by rw [HL.out]; omega) ?_)
    | fail)
  have e1 : k + (n - (k + 1)) = n - 1 := by omega
  rw [e1]
  obtain ⟨cur1, hcur1⟩ : ∃ cur1, (cur.toList.take (k * 3) ++ (news ++ cur.toList.drop (k * 3 + news.length))).toArray = cur1 := ⟨_, rfl⟩
  rw [hcur1]
  have hg1 : (w.drew.setRow gr cur1).heap[gr]? = some (.cells cur1 33 (0, 0)) := setRow_heap _ gr cur _ _ _ hg
  have hs1 : cur1.size = c * 3 := by rw [← hcur1]; simp [HL.out]; omega
  obtain ⟨X2, hX2, eX2⟩ := slice_mid (P := Try.prog) 57 3 Try.underlying57 (by kernel_rfl) ⟨gr, 0, none⟩ (n - 1) c (n - 1) n ((n - 1 : Nat) : Int) (n : Int) rfl rfl (by omega) (by omega)
  have eX3 : X2 = ⟨gr, (n - 1) * 3, none⟩ := by rw [eX2, if_neg (by omega), add_base]
  subst eX3
  have e2 : n - (n - 1) = 1 := by omega
  have hfit : (n - 1) * 3 + 3 ≤ cur1.size := by omega
  rw [e2] at hX2
  have HC := Lib.hid hcur1
  have HS := Lib.hid hs1
  clear hcur1 e1 e2 hs1 eX2
  obtain ⟨cur2, hcur2⟩ : ∃ cur2, (cur1.toList.take ((n - 1) * 3) ++ [Value.int .i64 0, .int .i64 0, .slice none 0 0] ++ cur1.toList.drop ((n - 1) * 3 + 3)).toArray = cur2 := ⟨_, rfl⟩
  have hcl := run_clear_row (P := Try.prog) (w.drew.setRow gr cur1) 57 0 33 i0 (.agg #[.int .i64 0, .int .i64 0, .slice none 0 0]) Try.underlying57 HI.out hz0 gr ((n - 1) * 3) 1 (c - (n - 1)) cur1 hg1 [.int .i64 0, .int .i64 0, .slice none 0 0] (by simp [Builtin.zeroCells, Value.cells, Array.range]) (by simp [Value.oneCell']) (by decide) hfit
  rw [show [Value.int .i64 0, .int .i64 0, .slice none 0 0].length = 3 from rfl, hcur2, setRow_setRow] at hcl
  have HC2 := Lib.hid hcur2
  clear hcur2
  go_wp2
  go_ret
  have hcs := HS.out
  refine ⟨rfl, ⟨rfl, rfl, rfl, by simp, fun b hb hne => ?_⟩, cur2, setRow_heap _ gr cur _ _ _ hg, ?_, ?_⟩
  · rw [setRow_other _ _ _ _ hne]; rfl
  · rw [← HC2.out]; simp; omega
  · rw [← HC2.out]
    have hc1 : cur1.toList.length = c * 3 := by simpa using hcs
    rw [List.append_assoc, List.take_left' (by simp; omega), ← HC.out, HN.out, ← List.append_assoc]
    exact List.take_left' (by simp [HL.out]; omega)
end Go.Proofs.Ytfhmdphcgcmaeaa
