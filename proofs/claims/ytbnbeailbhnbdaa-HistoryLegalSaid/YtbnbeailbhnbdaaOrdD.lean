/-
  Order: what is struck out of it.
-/
import Derived.Test.YtbnbeailbhnbdaaOrdN
import Derived.Laws.CopyRow
import Derived.StillTailTactics
set_option linter.unusedVariables false
set_option linter.unusedSimpArgs false
namespace Go.Proofs.Ytbnbeailbhnbdaa
open Go.RowKit

section
variable {P : Program}
/-- 'clear' of a part of a row. -/
theorem run_clear_row (w : World) (t ty e : TypeId) (i : TypeInfo) (z : Value) (ht : P.underlying t = some (.slice e)) (hi : P.info? e = some i) (hz : i.zero = some z)
    (g off m c : Nat) (cur : Array Value) (hcur : w.heap[g]? = some (.cells cur e (0, 0))) (zs : List Value) (hzs : (Builtin.zeroCells z.cells m).toList = zs) (h1 : ∀ u ∈ zs, u.oneCell' = true) (hm : m ≠ 0) (hfit : off + zs.length ≤ cur.size) :
    (Builtin.clear_ #[t] ty #[.slice (some ⟨g, off, none⟩) m c]).run P w = .ok (.tuple #[]) (w.setRow g (cur.toList.take off ++ zs ++ cur.toList.drop (off + zs.length)).toArray) := by
  have hst := run_storeCells_at (P := P) g off e zs 0 cur w hcur (by simpa using hfit) h1
  simp only [Nat.add_zero] at hst
  have hzv : (zeroValue e).run P w = .ok z w := by simp [zeroValue, typeInfo, hi, hz]
  unfold Builtin.clear_
  cases m with
  | zero => exact absurd rfl hm
  | succ m => simp [run_underlying ht, hzv, hzs, hst, Result.andThen]
theorem wpList_clear_row {ops : Array Oper} {rest : List Oper} {o : Oper} {a : Act} {Q : Exit → Act → World → Prop} {w : World} (hgd : o.guard = none) (s : Operand) (t : TypeId)
    (ho : o.op = .call { callee := .builtin .clear, args := #[s], argTypes := #[t] }) (e : TypeId) (i : TypeInfo) (z : Value) (ht : P.underlying t = some (.slice e)) (hi : P.info? e = some i) (hz : i.zero = some z)
    (g off m c : Nat) (cur : Array Value) (hcur : w.heap[g]? = some (.cells cur e (0, 0))) (hs : a.eval s = .slice (some ⟨g, off, none⟩) m c) (zs : List Value) (hzs : (Builtin.zeroCells z.cells m).toList = zs) (h1 : ∀ u ∈ zs, u.oneCell' = true) (hm : m ≠ 0) (hfit : off + zs.length ≤ cur.size)
    (h : wpList P ops Q rest (a.put o.dst (.tuple #[])) (w.setRow g (cur.toList.take off ++ zs ++ cur.toList.drop (off + zs.length)).toArray)) : wpList P ops Q (o :: rest) a w := by
  refine wpList_plain hgd fun K hK => ?_
  have hr := run_clear_row (P := P) w t o.type e i z ht hi hz g off m c cur hcur zs hzs h1 hm hfit
  unfold Oper.wp execOp
  simp only [ho, resolve, invoke, builtin, Sem.run_bind, Sem.run_pure, Result.andThen_ok, List.map_toArray, List.map_cons, List.map_nil, hs, hr]
  exact hK _ _ h
end
theorem infoIntD : (Try.prog.info? 3).map (fun i => (i.zero, i.size, i.bytes)) = some (some (.int .i64 0), 1, 8) := by kernel_rfl
theorem zero_ints (k : Nat) : (Builtin.zeroCells (Value.int .i64 0).cells k).toList = List.replicate k (.int .i64 0) := by
  rw [List.eq_replicate_iff]
  refine ⟨by simp [Builtin.zeroCells, Value.cells], fun b hb => ?_⟩
  simp only [Builtin.zeroCells, Value.cells, Array.toList_map, List.mem_map] at hb
  obtain ⟨i, _, rfl⟩ := hb
  simp [Nat.mod_one]
/-- Is the call struck out? -/
def delB (c : CV) : Bool := !c.ans && (c.kind == 2 || decide (c.place ≤ 0))
def GD (pl gc : Nat) (A : Option Addr) (n cp : Nat) (cs : List CV) (W : World) : Prop := W.cell? ⟨pl, 0, none⟩ = some (.slice A n cp) ∧ CallsAt gc cs W ∧ (0 < n → A = some ⟨gc, 0, none⟩)
theorem GD.out {pl gc g n cp : Nat} {A : Option Addr} {cs : List CV} {W W' : World} (h : GD pl gc A n cp cs W) (hO : Outside (· = g) W W') (h1 : pl ≠ g) (h2 : gc ≠ g) : GD pl gc A n cp cs W' := by
  refine ⟨?_, h.2.1.out hO h2, h.2.2⟩
  have hl := World.block_lt_of_cell? _ _ h.1
  have h3 := hO.block pl hl h1
  rw [← h.1]
  simp only [World.cell?, h3]
theorem del_any {pl gc n cp : Nat} {A : Option Addr} {cs : List CV} (w : World) (h : GD pl gc A n cp cs w) (hn : cs.length = n) (x : Nat) (hx : x < n) :
    Calls Try.prog 42 #[.int .i64 (x : Int), .pointer (some ⟨pl, 0, none⟩)] w (fun e w' => e = .returned (.bool (delB (atC cs (x : Int)))) ∧ w = w') := by
  obtain ⟨h1, h2, h3⟩ := h
  obtain rfl := h3 (by omega)
  clear h3
  have hget : cs[x]? = some (atC cs (x : Int)) := by
    unfold atC
    rw [Int.toNat_natCast, List.getD_eq_getElem?_getD, List.getElem?_eq_getElem (by omega)]
    rfl
  obtain ⟨c, hc⟩ : ∃ c, atC cs (x : Int) = c := ⟨_, rfl⟩
  rw [hc] at hget ⊢
  have k5 : w.cell? ⟨gc, x * 12 + 5, none⟩ = some (.bool c.ans) := h2 x c hget 5 _ rfl
  have k3 : w.cell? ⟨gc, x * 12 + 3, none⟩ = some (.int .i64 c.kind) := h2 x c hget 3 _ rfl
  have k4 : w.cell? ⟨gc, x * 12 + 4, none⟩ = some (.int .i64 c.place) := h2 x c hget 4 _ rfl
  have hxi : (x : Int) < (n : Int) := by omega
  unfold delB
  clear hc hget h2 hn
  obtain ⟨c1, c2, c3, c4, c5, c6, c7, c8, c9, c10, c11, c12⟩ := c
  dsimp only at k3 k4 k5 ⊢
  go_enter Try.func42, Try.ntmps42
  cases c6 with
  | true =>
    go_wp2_with fail
    go_ret
    exact ⟨rfl, rfl⟩
  | false =>
    by_cases h4 : c4 = 2
    · subst h4
      go_wp2_with fail
      go_ret
      exact ⟨rfl, rfl⟩
    · have h4' : (c4 == 2) = false := by simpa using h4
      by_cases h5 : c5 ≤ 0
      · go_wp2_with fail
        go_ret
        simp [h4', h5]
      · go_wp2_with fail
        go_ret
        simp [h4', h5]
def delV (pl : Nat) : Value := .func (.func 42) #[] #[.pointer (some ⟨pl, 0, none⟩)]
/-- The first that is struck out. -/
def FirstD (cs : List CV) (ds : List Int) (v : Int) : Prop := (v = -1 ∧ ∀ j, j < ds.length → delB (atC cs (ds.getD j 0)) = false) ∨ ∃ i : Nat, i < ds.length ∧ v = (i : Int) ∧ delB (atC cs (ds.getD i 0)) = true ∧ ∀ j, j < i → delB (atC cs (ds.getD j 0)) = false
set_option maxHeartbeats 2000000 in
theorem index_del {pl gc g n cp m : Nat} {A : Option Addr} {cs : List CV} {ds : List Int} (w : World) (h : GD pl gc A n cp cs w) (hn : cs.length = n) (ha : ArrAt g ds w) (hds : ∀ x ∈ ds, 0 ≤ x ∧ x < (n : Int)) (hm : ds.length = m) (hmx : m ≤ 1099511627776) :
    Calls Try.prog 55 #[.slice (some ⟨g, 0, none⟩) m m, delV pl] w (fun e w' => ∃ v, e = .returned (.int .i64 v) ∧ FirstD cs ds v ∧ w = w') := by
  have HDEL : Hid (∀ x : Nat, x < n → Calls Try.prog 42 #[.int .i64 (x : Int), .pointer (some ⟨pl, 0, none⟩)] w (fun e w' => e = .returned (.bool (delB (atC cs (x : Int)))) ∧ w = w')) := Lib.hid (fun x hx => del_any w h hn x hx)
  have HA := Lib.hid ha
  have HDS := Lib.hid hds
  have HM := Lib.hid hm
  clear h hn ha hds hm
  unfold delV
  go_enter Try.func55, Try.ntmps55
  go_wp2_with fail
  go_loopw [8] (fun s wr => ∃ i : Nat, s = .int .i64 (i : Int) ∧ i ≤ m ∧ (∀ j, j < i → delB (atC cs (ds.getD j 0)) = false) ∧ w = wr) (fun s _ => m - (intOf s).toNat)
  case atStart => exact ⟨0, rfl, Nat.zero_le _, fun j hj => by omega, rfl⟩
  case round =>
    obtain ⟨i, rfl, hi, hok, rfl⟩ := hrel
    have HOK := Lib.hid hok
    clear hok
    by_cases hlt : i < m
    · have hki : (i : Int) < (m : Int) := by omega
      have hil : i < ds.length := by rw [HM.out]; exact hlt
      have hc := HA.out.cell hil
      obtain ⟨v, hv⟩ : ∃ v, ds.getD i 0 = v := ⟨_, rfl⟩
      have hv2 := HDS.out v (by rw [← hv, getD_of hil]; exact List.getElem_mem hil)
      obtain ⟨x, rfl⟩ : ∃ x : Nat, v = (x : Int) := ⟨v.toNat, by omega⟩
      rw [hv] at hc
      have hxn : x < n := by omega
      obtain ⟨b, hb⟩ : ∃ b, delB (atC cs (x : Int)) = b := ⟨_, rfl⟩
      have HCX := Lib.hid (HDEL.out x hxn)
      rw [hb] at HCX
      have HB : Hid (delB (atC cs (ds.getD i 0)) = b) := Lib.hid (by rw [hv]; exact hb)
      clear hv hv2 hb hil
      cases b with
      | true =>
        go_wp2_with (first
          | (go_at_call 42; refine HCX.out.mono ?_; rintro e w1 ⟨rfl, rfl⟩)
          | fail)
        go_ret
        exact ⟨_, rfl, .inr ⟨i, by rw [HM.out]; exact hlt, rfl, HB.out, HOK.out⟩, rfl⟩
      | false =>
        go_wp2_with (first
          | (go_at_call 42; refine HCX.out.mono ?_; rintro e w1 ⟨rfl, rfl⟩)
          | fail)
        go_roundw
        case rel =>
          refine ⟨i + 1, by go_num, hlt, fun j hj => ?_, by first | rfl | trivial⟩
          rcases Nat.lt_or_ge j i with h9 | h9
          · exact HOK.out j h9
          · obtain rfl : j = i := by omega
            exact HB.out
        case measure => simp [intOf] <;> omega
    · have hki : ¬ (i : Int) < (m : Int) := by omega
      go_wp2_with fail
      go_ret
      exact ⟨_, rfl, .inl ⟨rfl, fun j hj => HOK.out j (by rw [HM.out] at hj; omega)⟩, rfl⟩
theorem keepL_next {P : Int → Bool} {ds es : List Int} {a j : Nat} (hj : j < ds.length) (hl : es.length = ds.length) (ha : a < j) (h1 : es.take a = (ds.take j).filter P) (h2 : es.drop j = ds.drop j) (hp : P (ds.getD j 0) = true) :
    (es.set a (ds.getD j 0)).take (a + 1) = (ds.take (j + 1)).filter P ∧ (es.set a (ds.getD j 0)).drop (j + 1) = ds.drop (j + 1) := by
  constructor
  · rw [List.take_succ_eq_append_getElem (by rw [List.length_set]; omega), List.take_set_of_le (Nat.le_refl _), List.getElem_set_self, h1, List.take_succ_eq_append_getElem hj, List.filter_append]
    have e : ds.getD j 0 = ds[j] := getD_of hj
    rw [e] at hp ⊢
    simp [hp]
  · rw [List.drop_set_of_lt (by omega), ← List.drop_drop, h2, List.drop_drop]
theorem keepL_skip {P : Int → Bool} {ds es : List Int} {a j : Nat} (hj : j < ds.length) (h1 : es.take a = (ds.take j).filter P) (h2 : es.drop j = ds.drop j) (hp : P (ds.getD j 0) = false) :
    es.take a = (ds.take (j + 1)).filter P ∧ es.drop (j + 1) = ds.drop (j + 1) := by
  constructor
  · rw [h1, List.take_succ_eq_append_getElem hj, List.filter_append]
    have e : ds.getD j 0 = ds[j] := getD_of hj
    rw [e] at hp
    simp [hp]
  · rw [← List.drop_drop, h2, List.drop_drop]
theorem keepL_none {P : Int → Bool} {ds : List Int} (h : ∀ j, j < ds.length → P (ds.getD j 0) = true) : ds.filter P = ds := by
  rw [List.filter_eq_self]
  intro x hx
  obtain ⟨j, hj, rfl⟩ := List.getElem_of_mem hx
  rw [← getD_of hj]
  exact h j hj
theorem keepL_first {P : Int → Bool} {ds : List Int} {i : Nat} (hi : i < ds.length) (h : ∀ j, j < i → P (ds.getD j 0) = true) (hp : P (ds.getD i 0) = false) : ds.take i = (ds.take (i + 1)).filter P := by
  rw [List.take_succ_eq_append_getElem hi, List.filter_append]
  have e : ds.getD i 0 = ds[i] := getD_of hi
  rw [e] at hp
  have h2 : (ds.take i).filter P = ds.take i := by
    rw [List.filter_eq_self]
    intro x hx
    obtain ⟨j, hj, rfl⟩ := List.getElem_of_mem hx
    rw [List.length_take] at hj
    rw [List.getElem_take, ← getD_of (by omega)]
    exact h j (by omega)
  rw [h2]
  simp [hp]
/-- What is kept, in its row. -/
def keepO (cs : List CV) (ds : List Int) : List Int := ds.filter fun x => !delB (atC cs x)
def RetKeep (g m : Nat) (L : List Int) (w : World) (e : Ending) (w' : World) : Prop := e = .returned (.slice (some ⟨g, 0, none⟩) L.length m) ∧ L.length ≤ m ∧ (∃ es, ArrAt g es w' ∧ es.take L.length = L) ∧ Outside (· = g) w w'
set_option maxRecDepth 16384 in
set_option maxHeartbeats 4000000 in
theorem delete_ord {pl gc g n cp m : Nat} {A : Option Addr} {cs : List CV} {ds : List Int} (w : World) (h : GD pl gc A n cp cs w) (h1 : pl ≠ g) (h2 : gc ≠ g) (hn : cs.length = n) (ha : ArrAt g ds w) (hds : ∀ x ∈ ds, 0 ≤ x ∧ x < (n : Int)) (hm : ds.length = m) (hmx : m ≤ 1099511627776) :
    Calls Try.prog 41 #[.slice (some ⟨g, 0, none⟩) m m, delV pl] w (RetKeep g m (keepO cs ds) w) := by
  have HIX := Lib.hid (index_del w h hn ha hds hm hmx)
  have HDEL : Hid (∀ W', Outside (· = g) w W' → ∀ x : Nat, x < n → Calls Try.prog 42 #[.int .i64 (x : Int), .pointer (some ⟨pl, 0, none⟩)] W' (fun e w' => e = .returned (.bool (delB (atC cs (x : Int)))) ∧ W' = w')) := Lib.hid (fun W' ho x hx => del_any W' (h.out ho h1 h2) hn x hx)
  have HA := Lib.hid ha
  have HDS := Lib.hid hds
  have HM := Lib.hid hm
  obtain ⟨i0, hi, hz0, hz1, hz2⟩ := info_three infoIntD
  have HI := Lib.hid hi
  clear h hn ha hds hm hi
  unfold delV
  unfold delV at HIX
  go_enter Try.func41, Try.ntmps41
  go_upto_region 2 with (first
    | (go_at_call 55; refine HIX.out.mono ?_; rintro e w1 ⟨v, rfl, hf, rfl⟩; have HF := Lib.hid hf; clear hf)
    | fail)
  rcases HF.out with ⟨rfl, hall⟩ | ⟨i, hil, rfl, hdi, hbi⟩
  · have e : keepO cs ds = ds := keepL_none (fun j hj => by rw [hall j hj]; rfl)
    have HE := Lib.hid e
    clear hall e HF
    go_wp2_with fail
    go_ret
    rw [HE.out]
    exact ⟨by rw [HM.out]; rfl, by rw [HM.out]; exact Nat.le_refl _, ⟨ds, HA.out, List.take_length⟩, Outside.refl _ _⟩
  · have hne : ((i : Int) == -1) = false := by simp
    have him : i < m := by rw [← HM.out]; exact hil
    have HST : Hid (∃ (a j : Nat) (es : List Int), Value.int .i64 (i : Int) = .int .i64 (a : Int) ∧ Value.int .i64 ((i : Int) + 1) = .int .i64 (j : Int) ∧ a < j ∧ j ≤ m ∧ es.length = ds.length ∧ es.take a = (ds.take j).filter (fun x => !delB (atC cs x)) ∧ es.drop j = ds.drop j ∧ ArrAt g es w ∧ Outside (· = g) w w) :=
      Lib.hid ⟨i, i + 1, ds, rfl, by go_num, by omega, by omega, rfl, keepL_first hil (fun j hj => by rw [hbi j hj]; rfl) (by rw [hdi]; rfl), rfl, HA.out, Outside.refl _ _⟩
    clear hil hdi hbi HF
    go_wp2_with fail
    go_loopw [5, 6] (fun s5 s6 wr => ∃ (a j : Nat) (es : List Int), s5 = .int .i64 (a : Int) ∧ s6 = .int .i64 (j : Int) ∧ a < j ∧ j ≤ m ∧ es.length = ds.length ∧ es.take a = (ds.take j).filter (fun x => !delB (atC cs x)) ∧ es.drop j = ds.drop j ∧ ArrAt g es wr ∧ Outside (· = g) w wr) (fun _ s6 _ => m - (intOf s6).toNat)
    case atStart => exact HST.out
    case round =>
      obtain ⟨a, j, es, rfl, rfl, haj, hjm, hel, hta, hdr, har, hout⟩ := hrel
      have HTA := Lib.hid hta
      have HDR := Lib.hid hdr
      have HO := Lib.hid hout
      have HAR := Lib.hid har
      have HEL := Lib.hid hel
      by_cases hlt : j < m
      · have hki : (j : Int) < (m : Int) := by omega
        have hai : (a : Int) < (m : Int) := by omega
        have hjl : j < ds.length := by rw [HM.out]; exact hlt
        have hc := har.cell (i := j) (by omega)
        have heq : es.getD j 0 = ds.getD j 0 := by
          have h9 : es[j]? = ds[j]? := by
            have := congrArg (fun l => l[0]?) hdr
            simpa [List.getElem?_drop] using this
          rw [List.getD_eq_getElem?_getD, List.getD_eq_getElem?_getD, h9]
        rw [heq] at hc
        obtain ⟨v, hv⟩ : ∃ v, ds.getD j 0 = v := ⟨_, rfl⟩
        have hv2 := HDS.out v (by rw [← hv, getD_of hjl]; exact List.getElem_mem hjl)
        obtain ⟨x, rfl⟩ : ∃ x : Nat, v = (x : Int) := ⟨v.toNat, by omega⟩
        rw [hv] at hc
        have hca := har.cell (i := a) (by have := HM.out; omega)
        have hf := har.frozen a
        obtain ⟨b, hb⟩ : ∃ b, delB (atC cs (x : Int)) = b := ⟨_, rfl⟩
        have HCX := Lib.hid (HDEL.out wr hout x (by omega))
        rw [hb] at HCX
        have HV := Lib.hid hv
        have HB := Lib.hid hb
        clear hta hdr hout har hel heq hv hv2 hb hjl
        cases b with
        | true =>
          go_wp2_with (first
            | (go_at_call 42; refine HCX.out.mono ?_; rintro e w1 ⟨rfl, rfl⟩)
            | fail)
          go_roundw
          case rel =>
            obtain ⟨t1, t2⟩ := keepL_skip (P := fun x => !delB (atC cs x)) (by rw [HM.out]; exact hlt) HTA.out HDR.out (by show (!delB (atC cs (ds.getD _ 0))) = _; rw [HV.out, HB.out]; rfl)
            exact ⟨a, j + 1, es, rfl, by go_num, by omega, by omega, HEL.out, t1, t2, HAR.out, HO.out⟩
          case measure => simp [intOf] <;> omega
        | false =>
          go_wp2_with (first
            | (go_at_call 42; refine HCX.out.mono ?_; rintro e w1 ⟨rfl, rfl⟩)
            | fail)
          go_roundw
          case rel =>
            obtain ⟨t1, t2⟩ := keepL_next (P := fun x => !delB (atC cs x)) (by rw [HM.out]; exact hlt) HEL.out haj HTA.out HDR.out (by show (!delB (atC cs (ds.getD _ 0))) = _; rw [HV.out, HB.out]; rfl)
            rw [HV.out] at t1 t2
            exact ⟨a + 1, j + 1, es.set a (x : Int), by go_num, by go_num, by omega, by omega, by rw [List.length_set]; exact HEL.out, t1, t2, HAR.out.set a _, HO.out.set _ _ (.inr rfl)⟩
          case measure => simp [intOf] <;> omega
      · have hki : ¬ (j : Int) < (m : Int) := by omega
        obtain rfl : j = m := by omega
        obtain ⟨X, hX, eX⟩ := slice_from (P := Try.prog) 41 1 Try.underlying41 (by kernel_rfl) ⟨g, 0, none⟩ j j a (a : Int) rfl (by omega)
        have eX2 : X = ⟨g, a, none⟩ := by rw [eX, if_neg (by omega), add_base, Nat.mul_one]
        subst eX2
        have hcur : wr.heap[g]? = some (.cells (es.map i64v).toArray 3 (0, 0)) := har
        have hzs := zero_ints (j - a)
        have hcl := run_clear_row (P := Try.prog) wr 41 0 3 i0 (.int .i64 0) Try.underlying41 HI.out hz0 g a (j - a) (j - a) _ hcur _ hzs (fun u hu => by rw [List.eq_of_mem_replicate hu]; rfl) (by omega) (by have := HM.out; simp; omega)
        obtain ⟨cur2, hcur2⟩ : ∃ cur2, ((es.map i64v).toArray.toList.take a ++ List.replicate (j - a) (Value.int .i64 0) ++ (es.map i64v).toArray.toList.drop (a + (List.replicate (j - a) (Value.int .i64 0)).length)).toArray = cur2 := ⟨_, rfl⟩
        rw [hcur2] at hcl
        have HC2 := Lib.hid hcur2
        clear hta hdr hout har hel eX hcur hcur2 hzs
        have hk : keepO cs ds = es.take a := by
          rw [HTA.out, ← HM.out, List.take_length]
          rfl
        have hkl : (keepO cs ds).length = a := by
          rw [hk, List.length_take, HEL.out, HM.out]
          omega
        have HK := Lib.hid hk
        have HKL := Lib.hid hkl
        clear hk hkl
        go_wp2_with fail
        go_ret
        refine ⟨by rw [HKL.out]; rfl, by rw [HKL.out]; omega, ⟨es.take a ++ List.replicate (j - a) 0, ?_, ?_⟩, ?_⟩
        · have h9 : (wr.setRow g cur2).heap[g]? = some (.cells cur2 3 (0, 0)) := setRow_heap _ g _ _ _ _ HAR.out
          have h8 : cur2 = ((es.take a ++ List.replicate (j - a) 0).map i64v).toArray := by
            rw [← HC2.out]
            have h7 : (es.map i64v).drop (a + (List.replicate (j - a) (Value.int .i64 0)).length) = [] := by
              rw [List.drop_eq_nil_iff, List.length_map, HEL.out, HM.out, List.length_replicate]
              omega
            rw [h7, List.append_nil, List.map_append, List.map_take, List.map_replicate]
            rfl
          rw [h8] at h9 ⊢
          exact h9
        · rw [HKL.out, HK.out, List.take_append_of_le_length (by rw [List.length_take, HEL.out, HM.out]; omega), List.take_take, Nat.min_self]
        · refine HO.out.trans (T := (· = g)) ⟨rfl, rfl, rfl, by simp, fun b hb hne => ?_⟩ (fun b _ hs => hs)
          rw [setRow_other _ _ _ _ hne]
end Go.Proofs.Ytbnbeailbhnbdaa
