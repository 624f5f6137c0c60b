/-
  Package wire: a reader of bytes: what it has left, and numbers from it.
-/
import Derived.Test.YtoongmoajnedlaaGreatWire1
import Derived.Test.YtoongmoajnedlaaGreatBack8
import Derived.Test.YtoongmoajnedlaaGreatClone
import Derived.Test.YtoongmoajnedlaaGreatStep
set_option linter.unusedVariables false
set_option linter.unusedSimpArgs false
namespace Go.Proofs.YtoongmoajnedlaaGreat
open Go.RowKit
attribute [local go_sem] Oper.semAt_some

theorem enter_marks {P : Program} {f : FuncId} {fn : Func} {c : Code} {args : Array Value} {w : World} {R : Ending → World → Prop} (hf : P.funcs[f]? = some fn) (hb : fn.body = some c)
    (h : c.wp P (bodyPostM Fence.wide 0 P fn R) { tmps := args ++ Array.replicate (fn.ntmps - args.size) undef, defers := [] } w) : Calls P f args w R :=
  (callsIn_wide (n := 0)).1 (callsIn_of_wp_marks hf hb trivial ((wpIn_wide (n := 0)).2 h) rfl)
/-- The reader in block g. -/
def RdAt (g r : Nat) (s : RS) (W : World) : Prop := ∃ (e : Int) (R : Option Addr) (n c : Nat) (bs : List UInt8), W.heap[g]? = some (.cells #[.int .i64 e, .slice R n c, .bool true] 240 (0, 0)) ∧ bs.length = n ∧ n ≤ c ∧ n ≤ 140737488355328 ∧ Sees W R (u8s bs) ∧ (∀ ad, R = some ad → 0 < n → ad.block = r) ∧ (0 < n → r ≠ g) ∧ ((e = 0 ∧ s = some bs) ∨ (e ≠ 0 ∧ s = none))
section
variable {g : Nat} {W : World} {e : Int} {v : Value}
theorem rd_cells (h : W.heap[g]? = some (.cells #[.int .i64 e, v, .bool true] 240 (0, 0))) : W.cell? ⟨g, 0, none⟩ = some (.int .i64 e) ∧ W.cell? ⟨g, 1, none⟩ = some v ∧ W.cell? ⟨g, 2, none⟩ = some (.bool true) ∧ ∀ j, W.frozen? ⟨g, j, none⟩ = false := by
  refine ⟨?_, ?_, ?_, fun j => ?_⟩
  · rw [cell_of_row W g 0 _ _ _ h]; rfl
  · rw [cell_of_row W g 1 _ _ _ h]; rfl
  · rw [cell_of_row W g 2 _ _ _ h]; rfl
  · simp [World.frozen?, h]
end
def RetNum (g r : Nat) (s : RS) (w : World) (e : Ending) (w' : World) : Prop := e = .returned (.int .i64 ((rdN s).1 : Int)) ∧ RdAt g r (rdN s).2 w' ∧ Outside (· = g) w w'
theorem none_any (g : Nat) (w : World) (h2 : w.cell? ⟨g, 2, none⟩ = some (.bool true)) : Calls Tryz.prog 172 #[.pointer (some ⟨g, 0, none⟩)] w fun e w' => e = .returned (.bool false) ∧ w = w' := by
  have hq := fun (w : World) (a : Option Addr) => run_eql_pointer_nil (P := Tryz.prog) w 211 a
  go_enter Tryz.func172, Tryz.ntmps172
  go_wp2
  go_ret
  exact ⟨rfl, rfl⟩
theorem ok_any (g : Nat) (e : Int) (w : World) (h0 : w.cell? ⟨g, 0, none⟩ = some (.int .i64 e)) : Calls Tryz.prog 173 #[.pointer (some ⟨g, 0, none⟩)] w fun e' w' => e' = .returned (.bool (e == 0)) ∧ w = w' := by
  go_enter Tryz.func173, Tryz.ntmps173
  go_wp2
  go_ret
  exact ⟨rfl, rfl⟩
theorem set_any (g : Nat) (v : Int) (w : World) (h0 : w.cell? ⟨g, 0, none⟩ = some (.int .i64 0)) (hf : w.frozen? ⟨g, 0, none⟩ = false) : Calls Tryz.prog 174 #[.pointer (some ⟨g, 0, none⟩), .int .i64 v] w fun e' w' => e' = .returned (.tuple #[]) ∧ w.setCell ⟨g, 0, none⟩ (.int .i64 v) = w' := by
  go_enter Tryz.func174, Tryz.ntmps174
  go_wp2
  go_end0
  exact ⟨rfl, rfl⟩
/-- A fault is set. -/
theorem rd_fault {g r n c : Nat} {v : Int} {R : Option Addr} {bs : List UInt8} {w : World} (h : w.heap[g]? = some (.cells #[.int .i64 0, .slice R n c, .bool true] 240 (0, 0))) (h1 : bs.length = n) (h2 : n ≤ c) (h3 : n ≤ 140737488355328) (h4 : Sees w R (u8s bs)) (h5 : ∀ ad, R = some ad → 0 < n → ad.block = r) (hr : 0 < n → r ≠ g) (hv : v ≠ 0) :
    RdAt g r none (w.setCell ⟨g, 0, none⟩ (.int .i64 v)) ∧ Outside (· = g) w (w.setCell ⟨g, 0, none⟩ (.int .i64 v)) := by
  have ho : Outside (· = g) w (w.setCell ⟨g, 0, none⟩ (.int .i64 v)) := (Outside.refl _ _).set _ _ (.inr rfl)
  refine ⟨⟨v, R, n, c, bs, ?_, h1, h2, h3, ?_, h5, hr, .inr ⟨hv, rfl⟩⟩, ho⟩
  · simp [World.setCell, Array.getElem?_modify, h]
  · intro j u hj
    obtain ⟨ad, e, hc⟩ := h4 j u hj
    have hn : 0 < n := by have := (List.getElem?_eq_some_iff.1 hj).1; rw [u8s_length] at this; omega
    refine ⟨ad, e, ?_⟩
    rw [← hc]
    exact World.cell?_of_block (ho.block _ (World.block_lt_of_cell? _ _ hc) (by rw [add_blk, h5 ad e hn]; exact hr hn))
theorem add_zero' (a : Addr) : a.add 0 = a := by unfold Addr.add; rw [if_pos rfl]
theorem num_end {R : Ending → World → Prop} {W : World} {fn : Func} (hfn : fn.results = #[.tmp 2]) {tm : Array Value} {v : Value} (h2 : tm.getD 2 undef = v) (h : R (.returned v) W) :
    bodyPostM Fence.wide 0 Tryz.prog fn R .ret { tmps := tm, defers := [] } W :=
  ⟨v, by rw [results_tmp hfn, h2], h⟩
theorem num_end1 {R : Ending → World → Prop} {W : World} {fn : Func} (hfn : fn.results = #[.tmp 2]) {tm : Array Value} {v : Value} {D : Nat} (hd : W.heap[D]? = some (.deferred (some []))) (h2 : tm.getD 2 undef = v) (h : R (.returned v) (W.putObj D (.deferred none))) :
    bodyPostM Fence.wide 0 Tryz.prog fn R .ret { tmps := tm, defers := [{ target := .collected D, args := #[] }] } W := by
  refine ⟨by simp, .inl ⟨_, _, rfl, run_takeDeferred hd, ?_⟩⟩
  exact ⟨v, by rw [results_tmp hfn, h2], h⟩
/-- A number was taken. -/
theorem rd_done {g r n c x D : Nat} {ad : Addr} {X : Option Addr} {hd : UInt8} {t : List UInt8} {w W : World} (h0 : w.heap[g]? = some (.cells #[.int .i64 0, .slice (some ad) n c, .bool true] 240 (0, 0))) (h1 : (hd :: t).length = n) (h2 : n ≤ c) (h3 : n ≤ 140737488355328)
    (h4 : Sees w (some ad) (u8s (hd :: t))) (h5 : ∀ a, some ad = some a → 0 < n → a.block = r) (hr : 0 < n → r ≠ g) (hx : x < n) (hX : (if c = x + 1 then some ad else some (ad.add (x + 1))) = X) (hb : Below w.heap.size w W) (hD : w.heap.size ≤ D) (hd' : W.heap[D]? = some (.deferred (some []))) :
    RdAt g r (some (t.drop x)) ((W.setCell ⟨g, 1, none⟩ (.slice X (n - (x + 1)) (c - (x + 1)))).putObj D (.deferred none)) ∧ Outside (· = g) w ((W.setCell ⟨g, 1, none⟩ (.slice X (n - (x + 1)) (c - (x + 1)))).putObj D (.deferred none)) := by
  have hgl : g < w.heap.size := (Array.getElem?_eq_some_iff.1 h0).1
  have ho1 : Outside (· = g) w (W.setCell ⟨g, 1, none⟩ (.slice X (n - (x + 1)) (c - (x + 1)))) := (Outside.of_below hb).set _ _ (.inr rfl)
  have hd2 : (W.setCell ⟨g, 1, none⟩ (.slice X (n - (x + 1)) (c - (x + 1)))).heap[D]? = some (.deferred (some [])) := by
    rw [← hd']
    exact Below.heap_setCell _ _ _ _ (show D ≠ g by omega)
  have ho2 : Below w.heap.size (W.setCell ⟨g, 1, none⟩ (.slice X (n - (x + 1)) (c - (x + 1)))) ((W.setCell ⟨g, 1, none⟩ (.slice X (n - (x + 1)) (c - (x + 1)))).putObj D (.deferred none)) := below_putObj hD hd2
  have hpo : Outside (· = g) w ((W.setCell ⟨g, 1, none⟩ (.slice X (n - (x + 1)) (c - (x + 1)))).putObj D (.deferred none)) := ⟨ho2.os.trans ho1.os, ho2.tape.trans ho1.tape, ho2.output.trans ho1.output, Nat.le_trans ho1.size ho2.size, fun b hb' hs => (ho2.block b hb').trans (ho1.block b hb' hs)⟩
  have hWg : W.heap[g]? = some (.cells #[.int .i64 0, .slice (some ad) n c, .bool true] 240 (0, 0)) := (hb.block g hgl).trans h0
  have htl : (hd :: t).drop (x + 1) = t.drop x := rfl
  refine ⟨⟨0, X, n - (x + 1), c - (x + 1), t.drop x, ?_, ?_, by omega, by omega, ?_, ?_, fun h => hr (by omega), .inl ⟨rfl, rfl⟩⟩, hpo⟩
  · rw [ho2.block g hgl]
    simp [World.setCell, Array.getElem?_modify, hWg]
  · rw [← htl, List.length_drop, h1]
  · have hs : Sees w X (u8s (t.drop x)) := by
      rw [← hX, ← htl, u8s_drop]
      have := h4.drop_if (x + 1) c (by rw [u8s_length, h1]; exact h2)
      simpa using this
    intro j u hj
    obtain ⟨a, e, hc⟩ := hs j u hj
    have hb2 : a.block = ad.block := by
      rw [e] at hX
      split at hX
      · cases hX; rfl
      · cases hX; exact add_blk _ _
    refine ⟨a, e, ?_⟩
    rw [← hc]
    exact World.cell?_of_block (hpo.block _ (World.block_lt_of_cell? _ _ hc) (by rw [add_blk, hb2, h5 ad rfl (by omega)]; exact hr (by omega)))
  · intro a e hn
    have hb2 : a.block = ad.block := by
      rw [e] at hX
      split at hX
      · cases hX; rfl
      · cases hX; exact add_blk _ _
    rw [hb2]
    exact h5 ad rfl (by omega)
/-- What the bytes from the end make so far. -/
def accN (l : List UInt8) (j : Nat) : Nat := valD (l.drop (l.length - j))
theorem accN_step {l : List UInt8} {j : Nat} (hj : j < l.length) : accN l (j + 1) = (l.getD (l.length - 1 - j) 0).toNat + 256 * accN l j := by
  unfold accN
  have e : l.length - (j + 1) = l.length - 1 - j := by omega
  have e2 : l.length - j = (l.length - 1 - j) + 1 := by omega
  rw [e, e2, List.drop_eq_getElem_cons (by omega), List.getD_eq_getElem?_getD, List.getElem?_eq_getElem (by omega)]
  rfl
theorem accN_lt {l : List UInt8} (hl : l.length ≤ 6) (j : Nat) : accN l j < 281474976710656 := by
  unfold accN
  have h1 := valD_lt (l.drop (l.length - j))
  have h2 : 256 ^ (l.drop (l.length - j)).length ≤ 256 ^ 6 := Nat.pow_le_pow_right (by decide) (by rw [List.length_drop]; omega)
  have h3 : (256 : Nat) ^ 6 = 281474976710656 := by decide
  omega
theorem accN_lt2 {l : List UInt8} (hl : l.length ≤ 6) {j : Nat} (hj : j < l.length) : accN l j < 1099511627776 := by
  unfold accN
  have h1 := valD_lt (l.drop (l.length - j))
  have h2 : 256 ^ (l.drop (l.length - j)).length ≤ 256 ^ 5 := Nat.pow_le_pow_right (by decide) (by rw [List.length_drop]; omega)
  have h3 : (256 : Nat) ^ 5 = 1099511627776 := by decide
  omega
theorem accN_all (l : List UInt8) : accN l l.length = valD l := by unfold accN; rw [Nat.sub_self, List.drop_zero]
theorem i64_or8 (ac bv : Nat) (ha : ac < 36028797018963968) (hb : bv < 256) : bits .or .i64 ((ac : Int) * 256) (bv : Int) = ((bv + 256 * ac : Nat) : Int) := by
  have h := bits_join .i64 63 (by decide) (fun n h1 h2 => IntWalk.i64_in _ (by omega)) 8 ((ac : Int) * 256) (bv : Int) (by omega) (by omega) (by omega) (by omega) (by omega) (by omega)
  rw [h]
  omega
/-- Between two rounds. -/
def nrI (w : World) (gx : Nat) (l : List UInt8) (j : Nat) (W : World) : Prop := Box W gx 3 (.int .i64 (accN l j : Int)) ∧ Below w.heap.size w W ∧ gx + 2 ≤ W.heap.size
theorem nrI_mild {w : World} {gx X j : Nat} {l : List UInt8} {W W' : World} (h : nrI w gx l j W) (h1 : gx ≠ X) (hm : Mild w.heap.size X W W') : nrI w gx l j W' := by
  obtain ⟨x1, hb, hs⟩ := h
  exact ⟨hm.box x1 h1, hm.below hb (Nat.le_refl _), Nat.le_trans hs hm.size⟩
set_option maxRecDepth 16384 in
set_option maxHeartbeats 8000000 in
theorem number_rd (g r : Nat) (s : RS) (w : World) (h : RdAt g r s w) : Calls Tryz.prog 146 #[.pointer (some ⟨g, 0, none⟩)] w (RetNum g r s w) := by
  obtain ⟨e, R, n, c, bs, h0, h1, h2, h3, h4, h5, hrg, h6⟩ := h
  obtain ⟨c0, c1, c2, cf⟩ := rd_cells h0
  have HN := Lib.hid (none_any g w c2)
  have HO := Lib.hid (ok_any g e w c0)
  have H0 := Lib.hid h0
  have H1 := Lib.hid h1
  have H4 := Lib.hid h4
  have H5 := Lib.hid h5
  have f0 := cf 0
  have f1 := cf 1
  refine enter_marks Tryz.func146 rfl ?_
  simp only [Tryz.ntmps146, List.size_toArray, List.length_cons, List.length_nil, Nat.reduceAdd, Nat.reduceSub, Array.replicate_succ, Array.replicate_zero, List.push_toArray, List.append_toArray, List.nil_append, List.cons_append]
  rcases h6 with ⟨rfl, rfl⟩ | ⟨he, rfl⟩
  · have HF := Lib.hid (fun v (hv : v ≠ 0) => rd_fault (v := v) h0 h1 h2 h3 h4 h5 hrg hv)
    have HSET := Lib.hid (fun v => set_any g v w c0 f0)
    clear h0 h1 h4 h5 cf
    cases bs with
    | nil =>
      obtain rfl : n = 0 := by have := H1.out; simpa using this.symm
      go_wp2_with (first
        | (go_at_call 172; refine HN.out.mono ?_; rintro e1 w1 ⟨rfl, rfl⟩)
        | (go_at_call 173; refine HO.out.mono ?_; rintro e1 w1 ⟨rfl, rfl⟩)
        | (go_at_call 174; refine (HSET.out 20).mono ?_; rintro e1 w1 ⟨rfl, rfl⟩)
        | fail)
      refine num_end rfl rfl ⟨rfl, ?_⟩
      exact HF.out 20 (by decide)
    | cons hd t =>
      obtain ⟨ad, rfl, hc0⟩ := u8_at H4.out 0 (by simp)
      simp only [List.getElem_cons_zero] at hc0
      rw [add_zero'] at hc0
      have hnt : n = t.length + 1 := by have := H1.out; simpa using this.symm
      obtain ⟨x, hx⟩ : ∃ x, hd.toNat = x := ⟨_, rfl⟩
      rw [hx] at hc0
      have hx256 : x < 256 := by have := hd.toNat_lt; omega
      have hn0 : ((n : Int) == 0) = false := by simp; omega
      have hn1 : (0 : Int) < (n : Int) := by omega
      have HX := Lib.hid hx
      have HNT := Lib.hid hnt
      clear hx hnt
      by_cases g1 : 6 < x
      · have g1i : (6 : Int) < (x : Int) := by omega
        have HR : Hid (rdN (some (hd :: t)) = (0, none)) := Lib.hid (by unfold rdN getN; dsimp only; rw [HX.out, if_pos g1])
        go_wp2_with (first
          | (go_at_call 172; refine HN.out.mono ?_; rintro e1 w1 ⟨rfl, rfl⟩)
          | (go_at_call 173; refine HO.out.mono ?_; rintro e1 w1 ⟨rfl, rfl⟩)
          | (go_at_call 174; refine (HSET.out 21).mono ?_; rintro e1 w1 ⟨rfl, rfl⟩)
          | fail)
        refine num_end rfl rfl ?_
        unfold RetNum
        rw [HR.out]
        exact ⟨rfl, HF.out 21 (by decide)⟩
      · have g1i : ¬ (6 : Int) < (x : Int) := by omega
        by_cases g2 : n ≤ x
        · have g2i : (n : Int) ≤ (x : Int) := by omega
          have HR : Hid (rdN (some (hd :: t)) = (0, none)) := Lib.hid (by unfold rdN getN; dsimp only; rw [HX.out, if_neg g1, if_pos (by have := HNT.out; omega)])
          go_wp2_with (first
            | (go_at_call 172; refine HN.out.mono ?_; rintro e1 w1 ⟨rfl, rfl⟩)
            | (go_at_call 173; refine HO.out.mono ?_; rintro e1 w1 ⟨rfl, rfl⟩)
            | (go_at_call 174; refine (HSET.out 20).mono ?_; rintro e1 w1 ⟨rfl, rfl⟩)
            | fail)
          refine num_end rfl rfl ?_
          unfold RetNum
          rw [HR.out]
          exact ⟨rfl, HF.out 20 (by decide)⟩
        · have g2i : ¬ (n : Int) ≤ (x : Int) := by omega
          have g2j : (x : Int) < (n : Int) := by omega
          have hxl : x < (hd :: t).length := by rw [H1.out]; omega
          obtain ⟨ad', e', hcx⟩ := u8_at H4.out x hxl
          cases e'
          obtain ⟨lb, hlb⟩ : ∃ lb, (hd :: t)[x].toNat = lb := ⟨_, rfl⟩
          rw [hlb] at hcx
          have HLB : Hid (0 < x → (t.getD (x - 1) 0).toNat = lb) := Lib.hid (fun hp => by
            rw [← hlb]
            obtain ⟨y, rfl⟩ : ∃ y, x = y + 1 := ⟨x - 1, by omega⟩
            rw [List.getElem_cons_succ, Nat.add_sub_cancel, List.getD_eq_getElem?_getD, List.getElem?_eq_getElem]
            rfl)
          clear hlb hxl
          by_cases g3 : 0 < x ∧ lb = 0
          · obtain ⟨g3a, rfl⟩ := g3
            have g3i : (0 : Int) < (x : Int) := by omega
            have HR : Hid (rdN (some (hd :: t)) = (0, none)) := Lib.hid (by
              unfold rdN getN
              dsimp only
              rw [HX.out, if_neg g1, if_neg (by have := HNT.out; omega), if_pos ⟨g3a, UInt8.toNat_inj.1 (by rw [HLB.out g3a]; rfl)⟩])
            go_wp2_with (first
              | (go_at_call 172; refine HN.out.mono ?_; rintro e1 w1 ⟨rfl, rfl⟩)
              | (go_at_call 173; refine HO.out.mono ?_; rintro e1 w1 ⟨rfl, rfl⟩)
              | (go_at_call 174; refine (HSET.out 21).mono ?_; rintro e1 w1 ⟨rfl, rfl⟩)
              | fail)
            refine num_end rfl rfl ?_
            unfold RetNum
            rw [HR.out]
            exact ⟨rfl, HF.out 21 (by decide)⟩
          · have HR : Hid (rdN (some (hd :: t)) = (valD (t.take x), some (t.drop x))) := Lib.hid (by
              unfold rdN getN
              dsimp only
              rw [HX.out, if_neg g1, if_neg (by have := HNT.out; omega), if_neg]
              rintro ⟨k1, k2⟩
              exact g3 ⟨k1, by rw [← HLB.out k1, k2]; rfl⟩)
            go_upto_region 17 with (first
              | (go_at_call 172; refine HN.out.mono ?_; rintro e1 w1 ⟨rfl, rfl⟩)
              | (go_at_call 173; refine HO.out.mono ?_; rintro e1 w1 ⟨rfl, rfl⟩)
              | fail)
            go_cut [78] from 79 to 91 (fun s78 wc => s78 = .bool false ∧ w = wc)
            case first =>
              by_cases k0 : 0 < x
              · have k0i : (0 : Int) < (x : Int) := by omega
                have k1 : ((lb : Int) == 0) = false := by simp; omega
                go_wp2_with fail
                go_meet
                case rel => exact ⟨rfl, rfl⟩
              · have k0i : ¬ (0 : Int) < (x : Int) := by omega
                go_wp2_with fail
                go_meet
                case rel => exact ⟨rfl, rfl⟩
            case rest =>
              obtain ⟨rfl, rfl⟩ := hcut
              go_upto_region 8 with (fail)
              have hgl : g < w.heap.size := (Array.getElem?_eq_some_iff.1 H0.out).1
              obtain ⟨gx, hgx⟩ : ∃ gx, w.heap.size = gx := ⟨_, rfl⟩
              have hc1 : c1 = c1 := rfl
              obtain ⟨l, hl⟩ : ∃ l, t.take x = l := ⟨_, rfl⟩
              have hll : l.length = x := by rw [← hl, List.length_take]; have := HNT.out; omega
              obtain ⟨X1, hX1, hX1e⟩ := slice_mid (P := Tryz.prog) 29 1 Tryz.underlying29 (by kernel_rfl) ad n c 1 (x + 1) 1 ((x : Int) + 1) rfl (by omega) (by omega) (by omega)
              rw [Nat.add_sub_cancel] at hX1
              have hb0 : Below w.heap.size w (w.alloc (.cells #[.int .i64 0] 3)) := (Below.refl _ _).alloc (Nat.le_refl _) _
              obtain ⟨W1, hW1⟩ : ∃ W1, w.alloc (.cells #[.int .i64 0] 3) = W1 := ⟨_, rfl⟩
              rw [hW1] at hb0
              rw [hW1]
              have d1 : W1.cell? ⟨g, 1, none⟩ = some (.slice (some ad) n c) := (hb0.cell (World.block_lt_of_cell? _ _ c1)).trans c1
              have hz1 : W1.heap.size = gx + 1 := by rw [← hW1, ← hgx]; simp
              have hbx1 : Box W1 gx 3 (.int .i64 0) := by rw [← hW1, ← hgx]; exact Box.new _ _ _
              have HB0 := Lib.hid hb0
              have HZ1 := Lib.hid hz1
              have HBX1 := Lib.hid hbx1
              have HX1E := Lib.hid hX1e
              have HLL := Lib.hid hll
              have HL := Lib.hid hl
              have HGX := Lib.hid hgx
              have HGL := Lib.hid hgl
              rw [hgx]
              clear hc1 hb0 hW1 hz1 hbx1 hX1e hll hl hgx hgl c1 hc0 hcx hn0 HO HN HF HSET c0 f0
              go_wp2_with (first
                | (go_at_call 175; refine (back_any _ rfl _).mono ?_; rintro e5 w5 ⟨rfl, hw5⟩)
                | fail)
              have hb5 : Below W1.heap.size W1 w5 := by rw [← hw5]; exact (Below.refl _ _).alloc (Nat.le_refl _) _
              have hz5 : w5.heap.size = gx + 2 := by rw [← hw5, World.size_alloc]; have := HZ1.out; omega
              have hbb : Box w5 (gx + 1) 29 (.slice (some X1) x (c - 1)) := by rw [← hw5, ← show W1.heap.size = gx + 1 from HZ1.out]; exact Box.new _ _ _
              have hbx5 : Box w5 gx 3 (.int .i64 0) := HBX1.out.below hb5 HBX1.out.lt
              have hbw5 : Below w.heap.size w w5 := below_step HB0.out HB0.out.size hb5
              have hs5 : Sees w5 (some X1) (u8s l) := by
                have h9 := H4.out.drop_if 1 c (by rw [u8s_length, H1.out]; exact h2)
                have e9 : (if c = 1 then some ad else Option.map (fun x => x.add 1) (some ad)) = some X1 := by rw [HX1E.out]; split <;> simp
                rw [e9] at h9
                have h8 := (h9.take x).below hbw5
                have e8 : ((u8s (hd :: t)).drop 1).take x = u8s l := by rw [← HL.out, u8s_take]; rfl
                rw [e8] at h8
                exact h8
              have hadl : ad.block < w.heap.size := by
                obtain ⟨a0, e0, hc0⟩ := u8_at H4.out 0 (by simp)
                cases e0
                have := World.block_lt_of_cell? _ _ hc0
                rwa [add_blk] at this
              have hx1b : X1.block = ad.block := by rw [HX1E.out]; split <;> first | rfl | exact add_blk _ _
              have hord5 : OrdSee (fun b => b < gx + 2 ∧ b ≠ gx) (gx + 1) (some X1) x (c - 1) l w5 := ⟨hbb.cell, HLL.out, hs5, by omega, fun h0 a e => by cases e; have := HGX.out; omega⟩
              have HRI : Hid (nrI w gx l 0 w5) := Lib.hid ⟨by have : accN l 0 = 0 := (by unfold accN; rw [Nat.sub_zero, List.drop_length]; rfl); rw [this]; exact hbx5, hbw5, by omega⟩
              have HORS := Lib.hid hord5
              rw [HZ1.out]
              clear hw5 hb5 hz5 hbb hbx5 hbw5 hs5 hadl hx1b hord5
              refine (wpIn_wide (n := 0)).1 ?_
              refine wp_rangeB ?F (w0 := w5) rfl (fun args w => by kernel_rfl) (back_seq (fun b => b < gx + 2 ∧ b ≠ gx) (gx + 1) (some X1) x (c - 1) l w5 HORS.out (by omega))
                ?hKb (Below.refl _ _) ?hps (fun j W => nrI w gx l j W) ?hI ?h0 ?hassign ?hbody ?hdone
              case hKb => exact fun b h => by have := HRI.out.2.2; omega
              case hps =>
                rintro k x args W rfl
                rfl
              case hI => exact fun j X Y row h hg hr => nrI_mild (X := gx + 1) h (by omega) (Mild.of_grown hg (fun r e => ⟨by have := (hr r e).1; have := HRI.out.2.2; have := HGX.out; omega, (hr r e).2⟩))
              case h0 => exact HRI.out
              case hassign =>
                rintro ll j i v args W K hx rfl hi hK
                gi_wp2
                exact hK _ (KeepsFrom.refl _ _) (KeptOn.refl _ _) hi
              case hbody =>
                rintro ll j i v W hx ⟨x1, hb, hsz⟩
                have hjl := (List.getElem?_eq_some_iff.1 hx).1
                rw [backL_length] at hjl
                have hxv := backL_get (os := l) (k := j) hjl
                rw [hx] at hxv
                obtain ⟨rfl, hv⟩ : i = l.length - 1 - j ∧ v = ((l.getD (l.length - 1 - j) 0).toNat : Int) := by
                  simp only [Option.some.injEq, Prod.mk.injEq] at hxv
                  exact hxv
                have hst := accN_step hjl
                have hac := accN_lt2 (by have := HLL.out; omega) hjl
                obtain ⟨ac, hace⟩ : ∃ ac, accN l j = ac := ⟨_, rfl⟩
                obtain ⟨bv, hbv⟩ : ∃ bv, (l.getD (l.length - 1 - j) 0).toNat = bv := ⟨_, rfl⟩
                have hbv2 : bv < 256 := by rw [← hbv]; exact (l.getD (l.length - 1 - j) 0).toNat_lt
                rw [hace] at x1 hst hac
                rw [hbv] at hst hv
                subst hv
                have e1 := x1.cell
                have e2 := x1.frozen
                have HX1 := Lib.hid x1
                have HB := Lib.hid hb
                have HST := Lib.hid hst
                clear x1 hb hst hbv hx
                gi_wp2_with fail
                have hor := i64_or8 ac bv (by omega) hbv2
                rw [hor, ← HST.out]
                refine ⟨(KeepsOthers.setCell _ _ _).from _, KeptOn.set _ (fun h => h.2 rfl), HX1.out.set _, HB.out.setCell (p := ⟨gx, 0, none⟩) (show w.heap.size ≤ gx by have := HGX.out; omega) _, by simp [World.setCell]; omega⟩
              case hdone =>
                rintro D W hD ⟨x1, hb, hsz⟩ hK
                rw [backL_length, accN_all, ← HL.out] at x1
                have hWg : W.heap[g]? = some (.cells #[.int .i64 0, .slice (some ad) n c, .bool true] 240 (0, 0)) := (hb.block g HGL.out).trans H0.out
                obtain ⟨_, y1, _, yf⟩ := rd_cells hWg
                have yf1 := yf 1
                have x2 := x1.cell
                have hgg : gx ≠ g := by have := HGX.out; have := HGL.out; omega
                have x3 : (W.setCell ⟨g, 1, none⟩ (.slice (if c = x + 1 then some ad else some (ad.add (x + 1))) (n - (x + 1)) (c - (x + 1)))).cell? ⟨gx, 0, none⟩ = some (.int .i64 (valD (List.take x t) : Int)) := (x1.far _ _ (fun h => hgg h.symm)).cell
                obtain ⟨X, hX⟩ : ∃ X, (if c = x + 1 then some ad else some (ad.add (x + 1))) = X := ⟨_, rfl⟩
                rw [hX] at x3
                obtain ⟨X2, hX2, hX2e⟩ := slice_from (P := Tryz.prog) 29 1 Tryz.underlying29 (by kernel_rfl) ad n c (x + 1) ((x : Int) + 1) (by omega) (by omega)
                have hX3 : some X2 = X := by rw [hX2e, ← hX, Nat.mul_one]; split <;> rfl
                have HDN := Lib.hid (rd_done H0.out H1.out h2 h3 H4.out H5.out hrg (by omega) hX hb (by have := HRI.out.2.2; have := HGX.out; omega) hK)
                have HK := Lib.hid hK
                have HX3 := Lib.hid hX3
                rw [hX3] at hX2
                obtain ⟨vv, hvv⟩ : ∃ vv : Nat, valD (List.take x t) = vv := ⟨_, rfl⟩
                rw [hvv] at x2 x3 HR
                have HKD : Hid ((W.setCell ⟨g, 1, none⟩ (.slice X (n - (x + 1)) (c - (x + 1)))).heap[D]? = some (.deferred (some []))) := Lib.hid (by rw [← hK]; exact Below.heap_setCell _ _ _ _ (show D ≠ g by have := HRI.out.2.2; have := HGX.out; have := HGL.out; omega))
                clear hX hX2e hX3 hK hWg yf x1 hb hvv
                go_wp2_with fail
                refine num_end1 rfl HKD.out rfl ?_
                unfold RetNum
                rw [HR.out]
                exact ⟨rfl, HDN.out⟩
  · have he' : (e == 0) = false := by simpa using he
    have HRD : Hid (RdAt g r none w) := Lib.hid ⟨e, R, n, c, bs, h0, h1, h2, h3, h4, h5, hrg, .inr ⟨he, rfl⟩⟩
    rw [he'] at HO
    clear h0 h1 h4 h5 cf
    go_wp2_with (first
      | (go_at_call 172; refine HN.out.mono ?_; rintro e1 w1 ⟨rfl, rfl⟩)
      | (go_at_call 173; refine HO.out.mono ?_; rintro e1 w1 ⟨rfl, rfl⟩)
      | fail)
    exact num_end rfl rfl ⟨rfl, HRD.out, Outside.refl _ _⟩
end Go.Proofs.YtoongmoajnedlaaGreat
