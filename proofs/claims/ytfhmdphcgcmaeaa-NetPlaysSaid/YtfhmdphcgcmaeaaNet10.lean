/-
  Package net: Wall.
-/
import Derived.Test.YtfhmdphcgcmaeaaNet9
set_option linter.unusedVariables false
set_option linter.unusedSimpArgs false
namespace Go.Proofs.Ytfhmdphcgcmaeaa
open Go.RowKit

section
variable {P : Program}
/-- A whole array is stored into the middle of a block that is known whole. -/
theorem run_storeVar_rowmid (w : World) (g o : Nat) (ty t : TypeId) (cur : Array Value) (cs : List Value) (hg : w.heap[g]? = some (.cells cur t (0, 0))) (hi : (P.info? ty).map (·.size) = some cs.length) (hfit : o + cs.length ≤ cur.size) (h1 : ∀ u ∈ cs, u.oneCell' = true) :
    (storeVar ty ⟨g, o, none⟩ (.agg cs.toArray)).run P w = .ok () (w.setRow g (cur.toList.take o ++ cs ++ cur.toList.drop (o + cs.length)).toArray) := by
  have hst := run_storeCells_at (P := P) g o t cs 0 cur w hg (by simpa using hfit) h1
  simp only [Nat.add_zero] at hst
  cases hq : P.info? ty with
  | none => simp [hq] at hi
  | some i =>
    have hs : cs.length = i.size := by simp [hq] at hi; omega
    simp [storeVar, sizeOf, typeInfo, hq, Value.cells, hs] at hst ⊢
    exact hst
theorem wpList_store_rowmid {ops : Array Oper} {rest : List Oper} {op : Oper} {a : Act} {w : World} {Q : Exit → Act → World → Prop} (hgd : op.guard = none) (ty : TypeId) (x y : Operand) (ho : op.op = .store ty x y)
    (g o : Nat) (t : TypeId) (cur : Array Value) (cs : List Value) (hx : a.eval x = .pointer (some ⟨g, o, none⟩)) (hy : a.eval y = .agg cs.toArray) (hg : w.heap[g]? = some (.cells cur t (0, 0)))
    (hi : (P.info? ty).map (·.size) = some cs.length) (hfit : o + cs.length ≤ cur.size) (h1 : ∀ u ∈ cs, u.oneCell' = true)
    (h : wpList P ops Q rest (a.put op.dst undef) (w.setRow g (cur.toList.take o ++ cs ++ cur.toList.drop (o + cs.length)).toArray)) : wpList P ops Q (op :: rest) a w :=
  wpList_plain hgd fun _ hK => by
    unfold Oper.wp execOp
    simp only [ho, hx, hy, Instr.storeAt, Instr.sureAddr, Sem.run_bind, Sem.run_pure, Result.andThen_ok, run_storeVar_rowmid w g o ty t cur cs hg hi hfit h1]
    exact hK _ _ h
end
/-- The wall round some servers. -/
def wallL (ids : List Int) : List Bool := ids.foldl (fun wl i => wl.set i.toNat true) open16
theorem wallL_snoc (ids : List Int) (i : Int) : wallL (ids ++ [i]) = (wallL ids).set i.toNat true := by simp [wallL, List.foldl_append]
theorem wallL_len (ids : List Int) : (wallL ids).length = 16 := by
  unfold wallL
  generalize h : open16 = b
  have hb : b.length = 16 := by rw [← h]; rfl
  clear h
  induction ids generalizing b with
  | nil => exact hb
  | cons i l ih => exact ih _ (by simpa using hb)
def intV (i : Int) : Value := .int .i64 i
def wallE (ids : List Int) : Int := if ids.all serverB = true then 0 else 1
def wallObj (wl : List Bool) : Obj := .cells (wl.map Value.bool).toArray 59 (0, 0)
theorem wallObj_set {W : World} {B : Nat} {wl : List Bool} (h : W.heap[B]? = some (wallObj wl)) (i : Nat) (b : Bool) : (W.setCell ⟨B, i, none⟩ (.bool b)).heap[B]? = some (wallObj (wl.set i b)) := by
  unfold wallObj at *
  simp [World.setCell, Array.getElem?_modify, h, List.map_set]
theorem bools_one (wl : List Bool) : ∀ u ∈ wl.map Value.bool, u.oneCell' = true := by
  intro u hu
  obtain ⟨b, _, rfl⟩ := List.mem_map.1 hu
  rfl
theorem netObj_wall {W : World} {g : Nat} {most : Int} {A : Option Addr} {n c : Nat} {wl wl' : List Bool} (h : W.heap[g]? = some (netObj most A n c wl)) (h1 : wl.length = 16) (h2 : wl'.length = 16) :
    ∃ cur, W.heap[g]? = some (.cells cur 61 (0, 0)) ∧ cur.size = 18 ∧ (W.setRow g (cur.toList.take 2 ++ wl'.map Value.bool ++ cur.toList.drop (2 + (wl'.map Value.bool).length)).toArray).heap[g]? = some (netObj most A n c wl') := by
  refine ⟨_, h, by simp [h1], ?_⟩
  rw [setRow_heap _ _ _ _ _ _ h]
  unfold netObj
  simp [h2, h1]
theorem NetAt.rewall {S : Nat → Prop} {g : Nat} {most : Int} {ls : List Lt} {wl wl' : List Bool} {W W' : World} (h : NetAt S g most ls wl W) (hW' : ∀ b, b ≠ g → W'.heap[b]? = W.heap[b]?) (hg : ∀ A n c, W.heap[g]? = some (netObj most A n c wl) → W'.heap[g]? = some (netObj most A n c wl')) (hl : wl'.length = 16) : NetAt S g most ls wl' W' := by
  obtain ⟨A, c, cells, h1, h2, h3, h4, h5, h6⟩ := h
  refine ⟨A, c, cells, hg _ _ _ h1, hl, h3, own_same h4 (fun b hb => hW' b (fun e => own_notnet h4 h1 (by decide) (by rw [hb, e]))), h5, h6.imp fun j l cs _ hlt => ?_⟩
  obtain ⟨A1, c1, e, ho, hs⟩ := hlt
  exact ⟨A1, c1, e, own_same ho (fun b hb => hW' b (fun e => own_notnet ho h1 (by decide) (by rw [hb, e]))), hs⟩
set_option maxHeartbeats 2000000 in
theorem wall_any {S : Nat → Prop} {g : Nat} {most : Int} {ls : List Lt} {wl : List Bool} (A : Option Addr) (c : Nat) (ids : List Int) (w : World) (h : NetAt S g most ls wl w) (hm : most ≠ 0) (hc : ids.length ≤ c) (hlen : ids.length ≤ 9223372036854775807) (hA : Sees w A (ids.map intV)) :
    Calls Try.prog 19 #[.pointer (some ⟨g, 0, none⟩), .slice A ids.length c] w (RetOp S g most (wallE ids) ls (if wallE ids = 0 then wallL ids else wl) w) := by
  obtain ⟨T, hT⟩ : ∃ T, (if wallE ids = 0 then wallL ids else wl) = T := ⟨_, rfl⟩
  rw [hT]
  have HT := Lib.hid hT
  have H := Lib.hid h
  have HA := Lib.hid hA
  have h16 : ∀ n e, Try.prog.underlying n = some (.array 16 e) → True := fun _ _ _ => trivial
  have hb1 : (most == 0) = false := by simp [hm]
  obtain ⟨W, hW⟩ : ∃ W, w.alloc (wallObj open16) = W := ⟨_, rfl⟩
  have hal : Below w.heap.size w W := by rw [← hW]; exact (Below.refl w.heap.size w).alloc (Nat.le_refl _) _
  have x0 : W.heap[w.heap.size]? = some (wallObj open16) := by rw [← hW]; exact heap_alloc_new w _
  have HW := Lib.hid hW
  clear hT h hA h16 hW
  go_enter Try.func19, Try.ntmps19
  go_wp2
  have eW : w.alloc (.cells #[.bool false, .bool false, .bool false, .bool false, .bool false, .bool false, .bool false, .bool false, .bool false, .bool false, .bool false, .bool false, .bool false, .bool false, .bool false, .bool false] 59) = W := HW.out
  rw [eW]
  clear eW
  go_loopw [10] (fun i wr => ∃ k : Nat, i = .int .i64 (k : Int) ∧ k ≤ ids.length ∧ (ids.take k).all serverB = true ∧ Below w.heap.size w wr ∧ wr.heap[w.heap.size]? = some (wallObj (wallL (ids.take k)))) (fun i _ => ids.length - (intOf i).toNat)
  case atStart => exact ⟨0, rfl, Nat.zero_le _, rfl, hal, x0⟩
  case round =>
    obtain ⟨k, rfl, hkl, hall, hbw, hrow⟩ := hrel
    have HALL := Lib.hid hall
    clear hall
    by_cases hlt : k < ids.length
    · obtain ⟨ad, rfl, hcell0⟩ := HA.out k (intV ids[k]) (by rw [List.getElem?_map, List.getElem?_eq_getElem hlt]; rfl)
      have htk : ids.take (k + 1) = ids.take k ++ [ids[k]] := by rw [List.take_succ_eq_append_getElem hlt]
      have HTK := Lib.hid htk
      have hcell := ((hbw.cell (World.block_lt_of_cell? w _ hcell0)).trans hcell0)
      cases hs : serverB ids[k] with
      | true =>
        obtain ⟨i, hi, hi16⟩ := serverB_nat hs
        rw [← hi] at hcell
        have hsi := server_any (i : Int)
        have hSi : serverB (i : Int) = true := by rw [hi]; exact hs
        have HI := Lib.hid hi
        have q1 := cell_of_row wr _ i _ _ _ hrow
        have q2 := frozen_of_cells hrow i
        rw [List.getElem?_toArray, List.getElem?_map, List.getElem?_eq_getElem (by rw [wallL_len]; exact hi16)] at q1
        simp only [Option.map_some] at q1
        unfold intV at hcell
        clear hs hcell0 htk hi
        go_wp2_with (first
          | (go_at_call 30; refine (hsi _).mono ?_; rintro e w' ⟨rfl, rfl⟩; rw [hSi])
          | fail)
        go_roundw
        case rel => exact ⟨k + 1, by go_num, by omega, by rw [HTK.out, List.all_append, HALL.out, ← HI.out]; simp [hSi], hbw.setCell (by simp) _, by rw [HTK.out, wallL_snoc, ← HI.out]; exact wallObj_set hrow i true⟩
        case measure => simp [intOf]; omega
      | false =>
        unfold intV at hcell
        have hsi := server_any ids[k]
        go_wp2_with (first
          | (go_at_call 30; refine (hsi _).mono ?_; rintro e w' ⟨rfl, rfl⟩; rw [hs])
          | fail)
        go_ret
        have he : wallE ids = 1 := by
          unfold wallE
          rw [if_neg]
          intro ha
          rw [List.all_eq_true] at ha
          rw [ha _ (List.getElem_mem hlt)] at hs
          cases hs
        refine ⟨by rw [he]; rfl, ?_, Outside.of_below hbw⟩
        rw [← HT.out, he, if_neg (by decide)]
        exact (H.out.below hbw).mono (fun b hb => .inl hb)
    · have hke : k = ids.length := by omega
      subst hke
      have he : wallE ids = 0 := by
        unfold wallE
        rw [if_pos]
        have := HALL.out
        rwa [List.take_length] at this
      have hN := H.out.below hbw
      obtain ⟨R, cr, cells, h1, h2, h3, h4, h5, h6⟩ := id hN
      rw [List.take_length] at hrow
      obtain ⟨cur, hg, hcs, hset⟩ := netObj_wall h1 h2 (wallL_len ids)
      obtain ⟨n0, n1, _, nf⟩ := net_cells h1
      have hi16 : (Try.prog.info? 59).map (·.size) = some ((wallL ids).map Value.bool).toArray.size := by rw [show ((wallL ids).map Value.bool).toArray.size = 16 by simp [wallL_len]]; kernel_rfl
      have hi16' : (Try.prog.info? 59).map (·.size) = some ((wallL ids).map Value.bool).length := by rw [show ((wallL ids).map Value.bool).length = 16 by simp [wallL_len]]; kernel_rfl
      have hfit : 2 + ((wallL ids).map Value.bool).length ≤ cur.size := by simp [wallL_len, hcs]
      have HE := Lib.hid he
      have HSET := Lib.hid hset
      have HCS := Lib.hid hcs
      have H1 := Lib.hid h1
      clear he hset hcs hlt h1 h4 h5 h6 hN
      have hlt : ¬ ((ids.length : Int) < (ids.length : Int)) := by omega
      go_wp2_with (first
        | (go_at_call 25; refine (none_any g most _ n0).mono ?_; rintro e w' ⟨rfl, rfl⟩; rw [hb1])
        | (refine wpList_load_row rfl _ _ rfl w.heap.size rfl _ _ _ _ hrow Try.underlying59 rfl hi16 ?_)
        | (refine wpList_store_rowmid rfl _ _ _ rfl g 2 _ cur _ rfl rfl hg hi16' hfit (bools_one _) ?_)
        | fail)
      go_ret
      have hs2 := HSET.out
      simp only [List.append_assoc, List.length_map] at hs2
      refine ⟨by rw [HE.out]; rfl, ?_, rfl.trans hbw.os, rfl.trans hbw.tape, rfl.trans hbw.output, by simpa using hbw.size, fun b hb hs => (setRow_other _ _ _ _ (fun e => hs (by rw [e]; exact h3))).trans (hbw.block b hb)⟩
      rw [← HT.out, HE.out, if_pos rfl]
      refine ((H.out.below hbw).rewall (fun b hb => setRow_other _ _ _ _ hb) (fun A' n' c' h' => ?_) (wallL_len ids)).mono (fun b hb => .inl hb)
      rw [hs2]
      have e := h'.symm.trans H1.out
      unfold netObj at e
      simp at e
      obtain ⟨rfl, rfl, rfl⟩ := e
      rfl
end Go.Proofs.Ytfhmdphcgcmaeaa
