/-
  Right.
-/
import Derived.Test.YtbnbeailbhnbdaaCall5
import Derived.Test.YtbnbeailbhnbdaaPhase
import Derived.Deep.CutRange
import Derived.Deep.DeepCutAuto
set_option linter.unusedVariables false
set_option linter.unusedSimpArgs false
namespace Go.Proofs.Ytbnbeailbhnbdaa
open Go.RowKit

theorem below_cells {B b : Nat} {a : World} (hb : B ≤ b) : ∀ (vs : List Value) (o : Nat) (w : World), Below B a w → Below B a (w.setCells b o vs)
  | [], _, _, h => h
  | v :: r, o, w, h => below_cells hb r (o + 1) _ (h.setCell (p := ⟨b, o, none⟩) hb v)
def badB (a b : CV) : Bool := (a.client == b.client) && ((a.beg == b.beg) || (!a.ans || decide (b.beg < a.fin)))
def nextOK (cs : List CV) (o : List Int) (i : Nat) : Bool := i == 0 || !badB (atC cs (o.getD (i - 1) 0)) (atC cs (o.getD i 0))
def rowB (cs : List CV) : Bool := (List.range cs.length).all (nextOK cs (srtI (ltR cs) 0 cs.length))
def rightC (cs : List CV) : Bool := decide (cs.length ≤ 2000) && (cs.all aloneB && rowB cs)
/-- Two calls lie in two new boxes. -/
def TwoNew (c d : CV) (p q : Nat) (w W : World) : Prop := Below w.heap.size w W ∧ W.rangeAt p 0 c.cells.toList ∧ W.rangeAt q 0 d.cells.toList
theorem exec_load_mid {P : Program} {o : Oper} {a : Act} (ty : TypeId) (x : Operand) (ho : o.op = .load ty x) (b off : Nat) (hx : a.eval x = .pointer (some ⟨b, off, none⟩)) (cs : List Value) (d : TypeDesc) (w : World) (hc : w.rangeAt b off cs)
    (hu : P.underlying ty = some d) (hd : d.isRow = true) (hi : (P.info? ty).map (·.size) = some cs.length) : (execOp a.eval o).run P w = .ok (.value (.agg cs.toArray)) w := by
  unfold execOp
  simp only [ho, hx, Instr.loadAt, Instr.sureAddr, Sem.run_bind, Sem.run_pure, Result.andThen_ok, run_loadVar_mid w b off ty cs d hc hu hd hi]
theorem wpAnyT_two {P : Program} {ops : Array Oper} {Q : Exit → Act → World → Prop} {md : Region.Mode} {S : World → Prop} {T i j : Nat} {o1 o2 : Oper} {fuel : Nat} {listed : Array Bool} {a : Act} {w : World} (hr : Region.ready md ops listed = [i, j]) (ho1 : ops[i]? = some o1) (ho2 : ops[j]? = some o2)
    (h1 : ∀ K' : Act → World → Prop, (∀ a' w', (i = T ∨ S w') → wpAnyT P md ops Q T S fuel (listed.setIfInBounds i true) a' w' → K' a' w') → if Region.wanted o1 (yielded ops a.tmps) = true then Oper.wp P o1 a w K' Q else K' (a.put o1.dst undef) w)
    (h2 : ∀ K' : Act → World → Prop, (∀ a' w', (j = T ∨ S w') → wpAnyT P md ops Q T S fuel (listed.setIfInBounds j true) a' w' → K' a' w') → if Region.wanted o2 (yielded ops a.tmps) = true then Oper.wp P o2 a w K' Q else K' (a.put o2.dst undef) w) : wpAnyT P md ops Q T S (fuel + 1) listed a w :=
  ⟨fun h0 => absurd (hr ▸ h0) (by simp), fun k hk => by
    rw [hr] at hk
    rcases List.mem_cons.1 hk with rfl | hk
    · exact wpOp_step ho1 (fun K' hK => h1 K' (fun a' w' h3 h4 => hK a' w' ⟨h3, h4⟩))
    · obtain rfl := List.mem_singleton.1 hk
      exact wpOp_step ho2 (fun K' hK => h2 K' (fun a' w' h3 h4 => hK a' w' ⟨h3, h4⟩))⟩
theorem there_of_block {w : World} {b : Nat} {cs : Array Value} {t : TypeId} (h : w.heap[b]? = some (.cells cs t (0, 0))) (n : Nat) (hn : n = cs.size) : w.there b 0 n := fun j hj => by
  subst hn
  constructor
  · rw [cell_of_row w b (0 + j) _ _ _ h]
    simp
    omega
  · simp [World.frozen?, h]
def zeros12 : Array Value := #[.int .i64 0, .int .i64 0, .int .i64 0, .int .i64 0, .int .i64 0, .bool false, .int .i64 0, .int .i64 0, .int .i64 0, .int .i64 0, .slice none 0 0, .slice none 0 0]
theorem oneCells (c : CV) (h1 : c.dv.oneCell' = true) (h2 : c.rv.oneCell' = true) : ∀ v ∈ c.cells.toList, v.oneCell' = true := by
  intro v hv
  simp [CV.cells] at hv
  rcases hv with rfl | rfl | rfl | rfl | rfl | rfl | rfl | rfl | rfl | rfl | rfl | rfl
  all_goals first | rfl | exact h1 | exact h2
theorem row_true {cs : List CV} {o : List Int} {n : Nat} (hn : cs.length = n) (ho : srtI (ltR cs) 0 n = o) (h : ∀ i, i < n → nextOK cs o i = true) : rowB cs = true := by
  unfold rowB
  rw [hn, ho, List.all_eq_true]
  intro i hi
  exact h i (List.mem_range.1 hi)
theorem row_false {cs : List CV} {o : List Int} {n k : Nat} (hn : cs.length = n) (ho : srtI (ltR cs) 0 n = o) (hk : k < n) (h : nextOK cs o k = false) : rowB cs = false := by
  unfold rowB
  rw [hn, ho, List.all_eq_false]
  exact ⟨k, List.mem_range.2 hk, by rw [h]; decide⟩
theorem next_at {cs : List CV} {o : List Int} {k x y : Nat} {c d : CV} (hk : 1 ≤ k) (hx : o.getD (k - 1) 0 = (x : Int)) (hy : o.getD k 0 = (y : Int)) (hc : atC cs (x : Int) = c) (hd : atC cs (y : Int) = d) : nextOK cs o k = !badB c d := by
  unfold nextOK
  rw [hx, hy, hc, hd, beq_eq_false_iff_ne.2 (by omega : k ≠ 0)]
  rfl
theorem two_new {c d : CV} {ca cb : List Value} {p q : Nat} {w W : World} (hca : c.cells.toList = ca) (hcb : d.cells.toList = cb) (hb : Below w.heap.size w W) (hp : w.heap.size ≤ p) (hq : w.heap.size ≤ q) (hpq : p ≠ q) (h1 : W.there p 0 12) (h2 : W.there q 0 12) : TwoNew c d p q w ((W.setCells p 0 ca).setCells q 0 cb) := by
  have la : ca.length = 12 := by rw [← hca]; rfl
  have lb : cb.length = 12 := by rw [← hcb]; rfl
  refine ⟨below_cells hq _ _ _ (below_cells hp _ _ _ hb), ?_, ?_⟩
  · rw [hca]
    exact World.rangeAt_setCells_apart (World.rangeAt_setCells_same _ _ _ _ (by rw [la]; exact h1)) _ _ _ (.inl hpq)
  · rw [hcb]
    exact World.rangeAt_setCells_same _ _ _ _ (by rw [lb]; exact World.there_setCells h2 _ _ _)
theorem there_two (w : World) : ((w.alloc (.cells zeros12 62)).alloc (.cells zeros12 62)).drew.there w.heap.size 0 12 ∧ ((w.alloc (.cells zeros12 62)).alloc (.cells zeros12 62)).drew.there (w.heap.size + 1) 0 12 ∧ Below w.heap.size w ((w.alloc (.cells zeros12 62)).alloc (.cells zeros12 62)).drew := by
  refine ⟨there_of_block (cs := zeros12) (t := 62) ?_ 12 rfl, there_of_block (cs := zeros12) (t := 62) ?_ 12 rfl, (((Below.refl w.heap.size w).alloc (Nat.le_refl _) _).alloc (by simp) _).drew⟩
  · show ((w.heap.push _).push _)[w.heap.size]? = _
    rw [Array.getElem?_push, if_neg (by simp), Array.getElem?_push, if_pos rfl]
  · show ((w.heap.push _).push _)[w.heap.size + 1]? = _
    rw [Array.getElem?_push, if_pos (by simp)]
set_option maxRecDepth 4096 in
set_option maxHeartbeats 8000000 in
theorem right_any {gc : Nat} {A : Option Addr} {n cp : Nat} {cs : List CV} (w : World) (h : CallsOf gc A cs n w) (hm : n ≤ 140737488355328) (hgc : gc < w.heap.size) :
    Calls Try.prog 28 #[.slice A n cp] w (RetBo (rightC cs) w) := by
  have H := Lib.hid h
  have hn := h.1
  clear h
  by_cases h2 : n ≤ 2000
  · have h2i : (n : Int) ≤ 2000 := by omega
    have d2 : decide (cs.length ≤ 2000) = true := decide_eq_true (by omega)
    unfold rightC
    rw [d2]
    obtain ⟨v, hv⟩ : ∃ v, cs.all aloneB = v := ⟨_, rfl⟩
    have HV := Lib.hid hv
    rw [hv]
    clear hv hn
    cases v with
    | false =>
      go_enter Try.func28, Try.ntmps28
      go_wp2_with (first
        | (go_at_call 44; refine (contains_any _ H.out hm).mono ?_; rintro e w1 ⟨rfl, hb1⟩; rw [HV.out]; have HB1 := Lib.hid hb1; clear hb1)
        | fail)
      go_ret
      exact ⟨rfl, HB1.out⟩
    | true =>
      go_enter Try.func28, Try.ntmps28
      go_wp2_with (first
        | (go_at_call 44; refine (contains_any _ H.out hm).mono ?_; rintro e w1 ⟨rfl, hb1⟩; rw [HV.out]; have HB1 := Lib.hid hb1; clear hb1)
        | (go_at_call 37; refine (numbers_right w1 H.out.1 (by omega) H.out.2.1 (H.out.below HB1.out).2.2.1 (Nat.lt_of_lt_of_le hgc HB1.out.size)).mono ?_; rintro e wn ⟨go, rfl, ha, hgo, hbn⟩; rw [srtI_length]; have HAR := Lib.hid ha; have HBN := Lib.hid hbn; clear hbn ha)
        | fail)
      obtain ⟨o, ho⟩ : ∃ o, srtI (ltR cs) 0 n = o := ⟨_, rfl⟩
      have hol : o.length = n := by rw [← ho, srtI_length, Nat.sub_zero]
      have hom : ∀ k, k < n → ∃ x : Nat, o.getD k 0 = (x : Int) ∧ x < n := by
        intro k hk
        have hm1 : o.getD k 0 ∈ srtI (ltR cs) 0 n := by rw [ho]; exact mem_getD (by omega)
        have := mem_srtI.1 hm1
        exact ⟨(o.getD k 0).toNat, by omega, by omega⟩
      rw [ho] at HAR
      have HOM := Lib.hid hom
      have HHO := Lib.hid ho
      have HOL := Lib.hid hol
      have HCN : Hid (CallsOf gc A cs n wn) := Lib.hid ((H.out.below HB1.out).below HBN.out)
      have HWN : Hid (Below w.heap.size w wn) := Lib.hid (below_step HB1.out HB1.out.size HBN.out)
      clear hom ho hol HB1 HBN
      have first_ok : ∀ i, i < 1 → nextOK cs o i = true := fun i hi => by
        have h0 : i = 0 := by omega
        subst h0
        rfl
      go_loopw [4] (fun s wr => ∃ k : Nat, s = .int .i64 (k : Int) ∧ 1 ≤ k ∧ (k ≤ n ∨ k = 1) ∧ (∀ i, i < k → nextOK cs o i = true) ∧ Below wn.heap.size wn wr) (fun s _ => n - (intOf s).toNat)
      case atStart => exact ⟨1, rfl, Nat.le_refl _, .inr rfl, first_ok, Below.refl _ _⟩
      case round =>
        obtain ⟨k, rfl, hk1, hkn, hok, hbr⟩ := hrel
        have HOK := Lib.hid hok
        have HBR := Lib.hid hbr
        clear hok
        by_cases hlt : k < n
        · have hki : (k : Int) < (n : Int) := by omega
          obtain ⟨x, hx, hxn⟩ := HOM.out (k - 1) (by omega)
          obtain ⟨y, hy, hyn⟩ := HOM.out k hlt
          have har := HAR.out.below hbr
          have hcn := HCN.out.below hbr
          obtain rfl := hcn.2.1 (by omega)
          have hget : ∀ j : Nat, j < n → cs[j]? = some (atC cs (j : Int)) := by
            intro j hj
            have := hcn.1
            unfold atC
            rw [Int.toNat_natCast, List.getD_eq_getElem?_getD, List.getElem?_eq_getElem (by omega)]
            rfl
          obtain ⟨c, hc⟩ : ∃ c, atC cs (x : Int) = c := ⟨_, rfl⟩
          obtain ⟨d, hd⟩ : ∃ d, atC cs (y : Int) = d := ⟨_, rfl⟩
          have r1 := hcn.2.2.1 x c (by rw [hget x hxn, hc])
          have r2 := hcn.2.2.1 y d (by rw [hget y hyn, hd])
          have c1 := har.cell (i := k - 1) (by have := HOL.out; omega)
          have c2 := har.cell (i := k) (by have := HOL.out; omega)
          rw [hx] at c1
          rw [hy] at c2
          obtain ⟨ca, hca⟩ : ∃ ca, c.cells.toList = ca := ⟨_, rfl⟩
          obtain ⟨cb, hcb⟩ : ∃ cb, d.cells.toList = cb := ⟨_, rfl⟩
          have la : ca.length = 12 := by rw [← hca]; rfl
          have lb : cb.length = 12 := by rw [← hcb]; rfl
          have hu := Try.underlying62
          have hia : (Try.prog.info? 62).map (·.size) = some ca.length := by rw [la]; kernel_rfl
          have hib : (Try.prog.info? 62).map (·.size) = some cb.length := by rw [lb]; kernel_rfl
          have hmc := hcn.2.2.2 c (List.mem_of_getElem? (by rw [hget x hxn, hc]))
          have hmd := hcn.2.2.2 d (List.mem_of_getElem? (by rw [hget y hyn, hd]))
          have oa : ∀ v ∈ ca, v.oneCell' = true := by rw [← hca]; exact oneCells c hmc.1 hmc.2
          have ob : ∀ v ∈ cb, v.oneCell' = true := by rw [← hcb]; exact oneCells d hmd.1 hmd.2
          rw [hca] at r1
          rw [hcb] at r2
          have e1 : IntKind.i64.wrap ((k : Int) - 1) = (k : Int) - 1 := IntWalk.i64_in _ (by omega)
          have e2 : (0 : Int) ≤ (k : Int) - 1 := by omega
          have e3 : (k : Int) - 1 < (n : Int) := by omega
          have e4 : ((k : Int) - 1).toNat = k - 1 := by omega
          have e5 : (1 : Int) ≤ (k : Int) := by omega
          have hxi : (x : Int) < (n : Int) := by omega
          have hyi : (y : Int) < (n : Int) := by omega
          have HALL : Hid (∀ W', Below wr.heap.size wr W' → W'.cell? ⟨go, k - 1, none⟩ = some (.int .i64 (x : Int)) ∧ W'.cell? ⟨go, k, none⟩ = some (.int .i64 (y : Int)) ∧ W'.rangeAt gc (x * 12) ca ∧ W'.rangeAt gc (y * 12) cb) := Lib.hid (by
            intro W' hb
            refine ⟨(hb.cell (World.block_lt_of_cell? _ _ c1)).trans c1, (hb.cell (World.block_lt_of_cell? _ _ c2)).trans c2, ?_, ?_⟩
            · intro j v hj
              exact (hb.cell (World.block_lt_of_cell? _ _ (r1 j v hj))).trans (r1 j v hj)
            · intro j v hj
              exact (hb.cell (World.block_lt_of_cell? _ _ (r2 j v hj))).trans (r2 j v hj))
          have hp := HALL.out
          have HCA := Lib.hid hca
          have HCB := Lib.hid hcb
          have HX := Lib.hid hx
          have HY := Lib.hid hy
          have HCC := Lib.hid hc
          have HDD := Lib.hid hd
          clear hx hy har hcn hget hc hd r1 r2 c1 c2 hca hcb hbr hp hmc hmd
          go_upto_region 7 with fail
          go_cut [5, 6] from 16 to 60 (fun s5 s6 wc => ∃ p q, s5 = .pointer (some ⟨p, 0, none⟩) ∧ s6 = .pointer (some ⟨q, 0, none⟩) ∧ TwoNew c d p q wr wc)
          case first =>
            refine wp_region_T 18 (fun W' => Below wr.heap.size wr W') (by kernel_rfl) ?_
            have hS0 : Below wr.heap.size wr wr.drew := (Below.refl _ _).drew
            refine wpAnyT_take (i := 0) (v := ?v0) rfl (by kernel_rfl) (by kernel_rfl) (by kernel_rfl) (by kernel_rfl) (fun _ _ _ h => h) rfl (fun w' hS => ?y0) hS0 ?z0
            case y0 => (obtain ⟨s1, s2, _, _⟩ := HALL.out w' hS; go_simp; with_reducible rfl)
            try simp only [Act.put, List.getElem_toArray, List.getElem_cons_zero, List.getElem_cons_succ, List.setIfInBounds_toArray, List.set_cons_zero, List.set_cons_succ]
            refine wpAnyT_take (i := 1) (v := ?v1) rfl (by kernel_rfl) (by kernel_rfl) (by kernel_rfl) (by kernel_rfl) (fun _ _ _ h => h) rfl (fun w' hS => ?y1) hS0 ?z1
            case y1 => (obtain ⟨s1, s2, _, _⟩ := HALL.out w' hS; go_simp; with_reducible rfl)
            try simp only [Act.put, List.getElem_toArray, List.getElem_cons_zero, List.getElem_cons_succ, List.setIfInBounds_toArray, List.set_cons_zero, List.set_cons_succ]
            refine wpAnyT_take (i := 2) (v := ?v2) rfl (by kernel_rfl) (by kernel_rfl) (by kernel_rfl) (by kernel_rfl) (fun _ _ _ h => h) rfl (fun w' hS => ?y2) hS0 ?z2
            case y2 => (obtain ⟨s1, s2, _, _⟩ := HALL.out w' hS; go_simp; with_reducible rfl)
            try simp only [Act.put, List.getElem_toArray, List.getElem_cons_zero, List.getElem_cons_succ, List.setIfInBounds_toArray, List.set_cons_zero, List.set_cons_succ]
            refine wpAnyT_take (i := 3) (v := ?v3) rfl (by kernel_rfl) (by kernel_rfl) (by kernel_rfl) (by kernel_rfl) (fun _ _ _ h => h) rfl (fun w' hS => ?y3) hS0 ?z3
            case y3 => (obtain ⟨s1, s2, _, _⟩ := HALL.out w' hS; go_simp; with_reducible rfl)
            try simp only [Act.put, List.getElem_toArray, List.getElem_cons_zero, List.getElem_cons_succ, List.setIfInBounds_toArray, List.set_cons_zero, List.set_cons_succ]
            refine wpAnyT_take (i := 4) (v := ?v4) rfl (by kernel_rfl) (by kernel_rfl) (by kernel_rfl) (by kernel_rfl) (fun _ _ _ h => h) rfl (fun w' hS => ?y4) hS0 ?z4
            case y4 => (obtain ⟨s1, s2, _, _⟩ := HALL.out w' hS; go_simp; with_reducible rfl)
            try simp only [Act.put, List.getElem_toArray, List.getElem_cons_zero, List.getElem_cons_succ, List.setIfInBounds_toArray, List.set_cons_zero, List.set_cons_succ]
            refine wpAnyT_take (i := 5) (v := ?v5) rfl (by kernel_rfl) (by kernel_rfl) (by kernel_rfl) (by kernel_rfl) (fun _ _ _ h => h) rfl (fun w' hS => ?y5) hS0 ?z5
            case y5 => (obtain ⟨s1, s2, _, _⟩ := HALL.out w' hS; go_simp; with_reducible rfl)
            try simp only [Act.put, List.getElem_toArray, List.getElem_cons_zero, List.getElem_cons_succ, List.setIfInBounds_toArray, List.set_cons_zero, List.set_cons_succ]
            refine wpAnyT_take (i := 6) (v := ?v6) rfl (by kernel_rfl) (by kernel_rfl) (by kernel_rfl) (by kernel_rfl) (fun _ _ _ h => h) rfl (fun w' hS => ?y6) hS0 ?z6
            case y6 => (obtain ⟨s1, s2, _, _⟩ := HALL.out w' hS; go_simp; with_reducible rfl)
            try simp only [Act.put, List.getElem_toArray, List.getElem_cons_zero, List.getElem_cons_succ, List.setIfInBounds_toArray, List.set_cons_zero, List.set_cons_succ]
            refine wpAnyT_take (i := 7) (v := ?v7) rfl (by kernel_rfl) (by kernel_rfl) (by kernel_rfl) (by kernel_rfl) (fun _ _ _ h => h) rfl (fun w' hS => ?y7) hS0 ?z7
            case y7 => (refine exec_load_mid 62 (.tmp 28) ?_ gc (x * 12) ?_ ca _ w' (HALL.out w' hS).2.2.1 hu rfl hia <;> rfl)
            try simp only [Act.put, List.getElem_toArray, List.getElem_cons_zero, List.getElem_cons_succ, List.setIfInBounds_toArray, List.set_cons_zero, List.set_cons_succ]
            refine wpAnyT_take (i := 8) (v := ?v8) rfl (by kernel_rfl) (by kernel_rfl) (by kernel_rfl) (by kernel_rfl) (fun _ _ _ h => h) rfl (fun w' hS => ?y8) hS0 ?z8
            case y8 => (obtain ⟨s1, s2, _, _⟩ := HALL.out w' hS; go_simp; with_reducible rfl)
            try simp only [Act.put, List.getElem_toArray, List.getElem_cons_zero, List.getElem_cons_succ, List.setIfInBounds_toArray, List.set_cons_zero, List.set_cons_succ]
            refine wpAnyT_take (i := 9) (v := ?v9) rfl (by kernel_rfl) (by kernel_rfl) (by kernel_rfl) (by kernel_rfl) (fun _ _ _ h => h) rfl (fun w' hS => ?y9) hS0 ?z9
            case y9 => (obtain ⟨s1, s2, _, _⟩ := HALL.out w' hS; go_simp; with_reducible rfl)
            try simp only [Act.put, List.getElem_toArray, List.getElem_cons_zero, List.getElem_cons_succ, List.setIfInBounds_toArray, List.set_cons_zero, List.set_cons_succ]
            refine wpAnyT_take (i := 10) (v := ?v10) rfl (by kernel_rfl) (by kernel_rfl) (by kernel_rfl) (by kernel_rfl) (fun _ _ _ h => h) rfl (fun w' hS => ?y10) hS0 ?z10
            case y10 => (obtain ⟨s1, s2, _, _⟩ := HALL.out w' hS; go_simp; with_reducible rfl)
            try simp only [Act.put, List.getElem_toArray, List.getElem_cons_zero, List.getElem_cons_succ, List.setIfInBounds_toArray, List.set_cons_zero, List.set_cons_succ]
            refine wpAnyT_take (i := 11) (v := ?v11) rfl (by kernel_rfl) (by kernel_rfl) (by kernel_rfl) (by kernel_rfl) (fun _ _ _ h => h) rfl (fun w' hS => ?y11) hS0 ?z11
            case y11 => (obtain ⟨s1, s2, _, _⟩ := HALL.out w' hS; go_simp; with_reducible rfl)
            try simp only [Act.put, List.getElem_toArray, List.getElem_cons_zero, List.getElem_cons_succ, List.setIfInBounds_toArray, List.set_cons_zero, List.set_cons_succ]
            refine wpAnyT_take (i := 12) (v := ?v12) rfl (by kernel_rfl) (by kernel_rfl) (by kernel_rfl) (by kernel_rfl) (fun _ _ _ h => h) rfl (fun w' hS => ?y12) hS0 ?z12
            case y12 => (obtain ⟨s1, s2, _, _⟩ := HALL.out w' hS; go_simp; with_reducible rfl)
            try simp only [Act.put, List.getElem_toArray, List.getElem_cons_zero, List.getElem_cons_succ, List.setIfInBounds_toArray, List.set_cons_zero, List.set_cons_succ]
            refine wpAnyT_take (i := 13) (v := ?v13) rfl (by kernel_rfl) (by kernel_rfl) (by kernel_rfl) (by kernel_rfl) (fun _ _ _ h => h) rfl (fun w' hS => ?y13) hS0 ?z13
            case y13 => (obtain ⟨s1, s2, _, _⟩ := HALL.out w' hS; go_simp; with_reducible rfl)
            try simp only [Act.put, List.getElem_toArray, List.getElem_cons_zero, List.getElem_cons_succ, List.setIfInBounds_toArray, List.set_cons_zero, List.set_cons_succ]
            refine wpAnyT_take (i := 14) (v := ?v14) rfl (by kernel_rfl) (by kernel_rfl) (by kernel_rfl) (by kernel_rfl) (fun _ _ _ h => h) rfl (fun w' hS => ?y14) hS0 ?z14
            case y14 => (refine exec_load_mid 62 (.tmp 35) ?_ gc (y * 12) ?_ cb _ w' (HALL.out w' hS).2.2.2 hu rfl hib <;> rfl)
            try simp only [Act.put, List.getElem_toArray, List.getElem_cons_zero, List.getElem_cons_succ, List.setIfInBounds_toArray, List.set_cons_zero, List.set_cons_succ]
            have HT2 := Lib.hid (there_two wr)
            have HB1 : Hid (Below wr.heap.size wr (wr.alloc (.cells zeros12 62)).drew) := Lib.hid ((Below.refl _ _).alloc (Nat.le_refl _) _).drew
            refine wpAnyT_two (i := 15) (j := 16) (by kernel_rfl) rfl rfl (fun K' hK => ?_) (fun K' hK => ?_)
            · have HK := Lib.hid hK
              clear hK
              go_simp
              refine HK.out _ _ (.inr HB1.out) ?_
              clear HK
              try simp only [Act.put, List.getElem_toArray, List.getElem_cons_zero, List.getElem_cons_succ, List.setIfInBounds_toArray, List.set_cons_zero, List.set_cons_succ]
              refine wpAnyT_one (i := 16) (by kernel_rfl) rfl (fun K' hK => ?_)
              have HK := Lib.hid hK
              clear hK
              go_simp
              refine HK.out _ _ (.inr HT2.out.2.2) ?_
              clear HK
              try simp only [Act.put, List.getElem_toArray, List.getElem_cons_zero, List.getElem_cons_succ, List.setIfInBounds_toArray, List.set_cons_zero, List.set_cons_succ]
              refine wpAnyT_one (i := 17) (by kernel_rfl) rfl (fun K' hK => ?_)
              have HK := Lib.hid hK
              clear hK
              rw [if_pos (by rfl)]
              refine wp_store_mid 62 _ _ rfl wr.heap.size 0 ca.toArray rfl rfl (by show World.there _ _ 0 ca.length; rw [la]; exact HT2.out.1) hia (all_oneCell_toArray oa) ?_
              refine HK.out _ _ (.inr (below_cells (by omega) _ _ _ HT2.out.2.2)) ?_
              clear HK
              try simp only [Act.put, List.getElem_toArray, List.getElem_cons_zero, List.getElem_cons_succ, List.setIfInBounds_toArray, List.set_cons_zero, List.set_cons_succ]
              refine wpAnyT_one (i := 18) (by kernel_rfl) rfl (fun K' hK => ?_)
              have HK := Lib.hid hK
              clear hK
              rw [if_pos (by rfl)]
              refine wp_store_mid 62 _ _ rfl (wr.heap.size + 1) 0 cb.toArray rfl rfl (by show World.there _ _ 0 cb.length; rw [lb]; exact World.there_setCells HT2.out.2.1 _ _ _) hib (all_oneCell_toArray ob) ?_
              refine HK.out _ _ (.inl rfl) ?_
              clear HK
              try simp only [Act.put, List.getElem_toArray, List.getElem_cons_zero, List.getElem_cons_succ, List.setIfInBounds_toArray, List.set_cons_zero, List.set_cons_succ]
              refine wpAnyT_done (by kernel_rfl) ?_ _
              go_wp2_with fail
              go_meet
              case rel => exact ⟨_, _, rfl, rfl, two_new HCA.out HCB.out HT2.out.2.2 (by omega) (by omega) (by omega) HT2.out.1 HT2.out.2.1⟩
            · have HK := Lib.hid hK
              clear hK
              go_simp
              refine HK.out _ _ (.inr HB1.out) ?_
              clear HK
              try simp only [Act.put, List.getElem_toArray, List.getElem_cons_zero, List.getElem_cons_succ, List.setIfInBounds_toArray, List.set_cons_zero, List.set_cons_succ]
              refine wpAnyT_one (i := 15) (by kernel_rfl) rfl (fun K' hK => ?_)
              have HK := Lib.hid hK
              clear hK
              go_simp
              refine HK.out _ _ (.inr HT2.out.2.2) ?_
              clear HK
              try simp only [Act.put, List.getElem_toArray, List.getElem_cons_zero, List.getElem_cons_succ, List.setIfInBounds_toArray, List.set_cons_zero, List.set_cons_succ]
              refine wpAnyT_one (i := 17) (by kernel_rfl) rfl (fun K' hK => ?_)
              have HK := Lib.hid hK
              clear hK
              rw [if_pos (by rfl)]
              refine wp_store_mid 62 _ _ rfl (wr.heap.size + 1) 0 ca.toArray rfl rfl (by show World.there _ _ 0 ca.length; rw [la]; exact HT2.out.2.1) hia (all_oneCell_toArray oa) ?_
              refine HK.out _ _ (.inr (below_cells (by omega) _ _ _ HT2.out.2.2)) ?_
              clear HK
              try simp only [Act.put, List.getElem_toArray, List.getElem_cons_zero, List.getElem_cons_succ, List.setIfInBounds_toArray, List.set_cons_zero, List.set_cons_succ]
              refine wpAnyT_one (i := 18) (by kernel_rfl) rfl (fun K' hK => ?_)
              have HK := Lib.hid hK
              clear hK
              rw [if_pos (by rfl)]
              refine wp_store_mid 62 _ _ rfl (wr.heap.size) 0 cb.toArray rfl rfl (by show World.there _ _ 0 cb.length; rw [lb]; exact World.there_setCells HT2.out.1 _ _ _) hib (all_oneCell_toArray ob) ?_
              refine HK.out _ _ (.inl rfl) ?_
              clear HK
              try simp only [Act.put, List.getElem_toArray, List.getElem_cons_zero, List.getElem_cons_succ, List.setIfInBounds_toArray, List.set_cons_zero, List.set_cons_succ]
              refine wpAnyT_done (by kernel_rfl) ?_ _
              go_wp2_with fail
              go_meet
              case rel => exact ⟨_, _, rfl, rfl, two_new HCA.out HCB.out HT2.out.2.2 (by omega) (by omega) (by omega) HT2.out.2.1 HT2.out.1⟩
          case rest =>
            obtain ⟨p, q, rfl, rfl, hbc, ra, rb⟩ := hcut
            have HNX := Lib.hid (next_at hk1 HX.out HY.out HCC.out HDD.out)
            have HBC : Hid (Below wn.heap.size wn wc) := Lib.hid (below_step HBR.out HBR.out.size hbc)
            have p0 : wc.cell? ⟨p, 0, none⟩ = some (.int .i64 c.client) := ra 0 _ rfl
            have p1 : wc.cell? ⟨p, 1, none⟩ = some (.int .i64 c.beg) := ra 1 _ rfl
            have p2 : wc.cell? ⟨p, 2, none⟩ = some (.int .i64 c.fin) := ra 2 _ rfl
            have p5 : wc.cell? ⟨p, 5, none⟩ = some (.bool c.ans) := ra 5 _ rfl
            have q0 : wc.cell? ⟨q, 0, none⟩ = some (.int .i64 d.client) := rb 0 _ rfl
            have q1 : wc.cell? ⟨q, 1, none⟩ = some (.int .i64 d.beg) := rb 1 _ rfl
            obtain ⟨c1, c2, c3, c4, c5, c6, c7, c8, c9, c10, c11, c12⟩ := c
            obtain ⟨d1, d2', d3', d4, d5, d6, d7, d8, d9, d10, d11, d12⟩ := d
            dsimp only at p0 p1 p2 p5 q0 q1
            clear hbc ra rb HALL HCA HCB oa ob hia hib hu la lb e1 e2 e3 e4 e5
            by_cases f1 : c1 = d1
            · subst f1
              by_cases f2 : c2 = d2'
              · subst f2
                go_wp2_with fail
                go_ret
                refine ⟨?_, HWN.out.trans (HBC.out.mono HWN.out.size)⟩
                rw [row_false H.out.1 HHO.out hlt (by rw [HNX.out]; simp [badB, *])]
                rfl
              · have g2 : (c2 == d2') = false := by simp [f2]
                cases c6 with
                | false =>
                  go_wp2_with fail
                  go_ret
                  refine ⟨?_, HWN.out.trans (HBC.out.mono HWN.out.size)⟩
                  rw [row_false H.out.1 HHO.out hlt (by rw [HNX.out]; simp [badB, *])]
                  rfl
                | true =>
                  by_cases f3 : d2' < c3
                  · have g3 : decide (d2' < c3) = true := decide_eq_true f3
                    go_wp2_with fail
                    go_ret
                    refine ⟨?_, HWN.out.trans (HBC.out.mono HWN.out.size)⟩
                    rw [row_false H.out.1 HHO.out hlt (by rw [HNX.out]; simp [badB, *])]
                    rfl
                  · have g3 : decide (d2' < c3) = false := decide_eq_false f3
                    go_wp2_with fail
                    go_roundw
                    case rel =>
                      refine ⟨k + 1, by go_num, by omega, .inl hlt, ?_, HBC.out⟩
                      intro i hi
                      rcases Nat.lt_or_ge i k with h9 | h9
                      · exact HOK.out i h9
                      · obtain rfl : i = k := by omega
                        rw [HNX.out]
                        simp [badB, *]
                    case measure => simp [intOf] <;> omega
            · have g1 : (c1 == d1) = false := by simp [f1]
              go_wp2_with fail
              go_roundw
              case rel =>
                refine ⟨k + 1, by go_num, by omega, .inl hlt, ?_, HBC.out⟩
                intro i hi
                rcases Nat.lt_or_ge i k with h9 | h9
                · exact HOK.out i h9
                · obtain rfl : i = k := by omega
                  rw [HNX.out]
                  simp [badB, *]
              case measure => simp [intOf] <;> omega
        · have hki : ¬ (k : Int) < (n : Int) := by omega
          go_wp2_with fail
          go_ret
          refine ⟨?_, HWN.out.trans (HBR.out.mono HWN.out.size)⟩
          rw [row_true H.out.1 HHO.out (fun i hi => HOK.out i (by omega))]
          rfl
  · have h2i : ¬ (n : Int) ≤ 2000 := by omega
    have d2 : decide (cs.length ≤ 2000) = false := decide_eq_false (by omega)
    unfold rightC
    rw [d2]
    clear hn
    go_enter Try.func28, Try.ntmps28
    go_wp2_with fail
    go_ret
    exact ⟨rfl, Below.refl _ _⟩
end Go.Proofs.Ytbnbeailbhnbdaa
