/-
  The iterator of a model's records.
-/
import Derived.Test.YtbnbeailbhnbdaaMod6
import Derived.Test.YtbnbeailbhnbdaaRange
import Derived.Stop.RegionWithIn
import Derived.BigRegionIn
import Derived.Deep.CutRange
import Derived.Deep.DeepCutAuto
set_option linter.unusedVariables false
set_option linter.unusedSimpArgs false
namespace Go.Proofs.Ytbnbeailbhnbdaa
open Go.RowKit

/-- What the iterator hands over: a record, in a row of its own. -/
def byEnc (n0 : Nat) (k : Nat) (x : List UInt8) (args : Array Value) (W : World) : Prop := ∃ A c, args = #[.slice A x.length c] ∧ W.ownsRow n0 5 1 (.slice A x.length c) x.length (u8s x)
def NoStep (_ _ : World) : Prop := False
/-- What the iterator sees. -/
def RecSee (Kb : Nat → Prop) (l : List (List UInt8)) (X : Option Addr) (n c : Nat) (W : World) : Prop :=
  ∃ cells, l.length = n ∧ Sees W X cells ∧ (∀ ad, X = some ad → Kb ad.block) ∧ Recs (byRow Kb) 1 W l cells
theorem RecSee.keep {Kb : Nat → Prop} {l : List (List UInt8)} {X : Option Addr} {n c : Nat} {W W' : World} (h : RecSee Kb l X n c W) (hk : ∀ b, b < W.heap.size → Kb b → W'.heap[b]? = W.heap[b]?) : RecSee Kb l X n c W' := by
  obtain ⟨cells, h1, h2, h3, h4⟩ := h
  refine ⟨cells, h1, fun j u hj => ?_, h3, h4.imp fun j x cs _ hl => ?_⟩
  · obtain ⟨ad, e, hc⟩ := h2 j u hj
    refine ⟨ad, e, ?_⟩
    rw [World.cell?_of_block (hk _ (World.block_lt_of_cell? _ _ hc) (by rw [add_blk]; exact h3 ad e))]
    exact hc
  · obtain ⟨A1, c1, e, ho, hs⟩ := hl
    exact ⟨A1, c1, e, own_same ho (fun b hb => hk b (own_block_ge ho b hb).2 (hs b hb)), hs⟩
def recRel (n0 : Nat) (l : List (List UInt8)) (X : Option Addr) (n c : Nat) (Kb : Nat → Prop) (J : Nat → World → Prop) (at_ : Value) (wr : World) : Prop :=
  ∃ i : Nat, at_ = .int .i64 (i : Int) ∧ i ≤ n ∧ RecSee Kb l X n c wr ∧ J i wr ∧ n0 ≤ wr.heap.size
theorem rec_get {Kb : Nat → Prop} {l : List (List UInt8)} {k n c i : Nat} {X : Option Addr} {W : World} (h : RecSee Kb (l.drop k) X n c W) (hi : i < n) (hl : ∀ x ∈ l, x.length ≤ 140737488355328) :
    ∃ x A1 q a1 ad, (l.drop k)[i]? = some x ∧ x.length = q ∧ X = some ad ∧ W.cell? (ad.add i) = some (.slice A1 q a1) ∧ Sees W A1 (u8s x) ∧ q ≤ 140737488355328 ∧ q ≤ a1 := by
  obtain ⟨cells, h1, h2, h3, h4⟩ := h
  have hil : i < (l.drop k).length := by omega
  obtain ⟨cs, _, ⟨A1, a1, rfl, ho, _⟩, hcs⟩ := h4.get (List.getElem?_eq_getElem hil)
  have hu : cells[i]? = some (.slice A1 (l.drop k)[i].length a1) := by simpa using hcs 0 _ rfl
  obtain ⟨ad, e, hc⟩ := h2 i _ hu
  obtain ⟨_, h5, _, h6⟩ := sees_own' ho
  exact ⟨_, A1, _, a1, ad, List.getElem?_eq_getElem hil, rfl, e, hc, h6, hl _ (List.mem_of_mem_drop (List.getElem_mem hil)), h5⟩
theorem rec_ways {e : Ending} {p q : Prop} (h : (e = .returned (.bool true) ∧ p) ∨ (e = .returned (.bool false) ∧ q)) : ∃ b, e = .returned (.bool b) ∧ Hid ((b = true ∧ p) ∨ (b = false ∧ q)) := by
  rcases h with ⟨rfl, h⟩ | ⟨rfl, h⟩
  · exact ⟨true, rfl, .inl ⟨rfl, h⟩⟩
  · exact ⟨false, rfl, .inr ⟨rfl, h⟩⟩
theorem clone_q (A : Option Addr) (q c : Nat) (bs : List UInt8) (w : World) (hq : bs.length = q) (hc : q ≤ c) (hl : q ≤ 140737488355328) (h : Sees w A (u8s bs)) :
    Calls Try.prog 29 #[.slice A q c] w (RetOwn w 5 1 q (u8s bs)) := by
  subst hq
  exact clone_u8 A bs c w hc hl h
set_option maxHeartbeats 4000000 in
theorem recs_seq {T : Nat → Prop} {g first k n0 B1 B2 : Nat} {l : List (List UInt8)} (Kb : Nat → Prop) (w : World) (hf : first ≤ 140737488355328) (hl : l.length ≤ 4398046511104) (hb1 : w.cell? ⟨B1, 0, none⟩ = some (.pointer (some ⟨g, 0, none⟩))) (hb2 : w.cell? ⟨B2, 0, none⟩ = some (.int .i64 ((first : Int) + (k : Int))))
    (h : ModAt 61 T g first l w) (hT : ∀ b, T b → Kb b) (hk : k ≤ l.length) (hlen : ∀ x ∈ l, x.length ≤ 140737488355328) (hn0 : n0 ≤ w.heap.size) :
    SeqX Try.prog 48 #[.pointer (some ⟨B1, 0, none⟩), .pointer (some ⟨B2, 0, none⟩)] (byEnc n0) (l.drop k) NoStep Kb w := by
  intro ll J Jx W hW hJ hJx hY h0
  have hM := h.below hW
  obtain ⟨R, cr, cells, h1, h2, h3, h4, h5⟩ := hM
  obtain ⟨X, hX, hXb, hq⟩ := trim_slice h3 k hk
  have c1 := (hW.cell (World.block_lt_of_cell? _ _ hb1)).trans hb1
  have c2 := (hW.cell (World.block_lt_of_cell? _ _ hb2)).trans hb2
  obtain ⟨m0, m1, _⟩ := mod_cells h1
  have hsee : RecSee Kb (l.drop k) X (l.length - k) (cr - k) W := by
    refine ⟨cells.drop k, by simp, q_sees hq, fun ad e => hT _ (h4 _ (by rw [← hXb, e]; rfl)), ?_⟩
    have := h5.drop k
    rw [Nat.mul_one] at this
    exact this.imp fun j x cs _ hl => by
      obtain ⟨A1, c1, e, ho, hs⟩ := hl
      exact ⟨A1, c1, e, ho, fun b hb => hT b (hs b hb)⟩
  obtain ⟨n, hn⟩ : ∃ n, l.length - k = n := ⟨_, rfl⟩
  obtain ⟨c, hc⟩ : ∃ c, cr - k = c := ⟨_, rfl⟩
  obtain ⟨N, hN⟩ : ∃ N, l.length = N := ⟨_, rfl⟩
  rw [hn, hc] at hsee
  rw [hN] at m1 hk hl
  have hNk : N - k = n := by omega
  have HST : Hid (∀ q, recRel n0 (l.drop k) X n c Kb J (.int .i64 0) (W.drewN q)) := Lib.hid fun q => ⟨0, rfl, Nat.zero_le _, hsee.keep (fun _ _ _ => rfl), hJ.1 _ _ _ h0 ⟨rfl, rfl, rfl, Nat.le_refl _, fun _ _ _ => rfl⟩, Nat.le_trans hn0 hW.size⟩
  have e1 : (first : Int) + (k : Int) - (first : Int) = (k : Int) := by omega
  have e2 : IntKind.i64.wrap (k : Int) = (k : Int) := IntWalk.i64_in _ (by omega)
  have d1 : W.drew.cell? ⟨B1, 0, none⟩ = some (.pointer (some ⟨g, 0, none⟩)) := c1
  have d2 : W.drew.cell? ⟨B2, 0, none⟩ = some (.int .i64 ((first : Int) + (k : Int))) := c2
  have d3 : W.drew.cell? ⟨g, 0, none⟩ = some (.int .i64 (first : Int)) := m0
  have d4 : W.drew.cell? ⟨g, 1, none⟩ = some (.slice R N cr) := m1
  have HJ := Lib.hid hJ
  have HJx := Lib.hid hJx
  have HY := Lib.hid hY
  have HLN := Lib.hid hlen
  clear hJ hJx hY hsee h0 hb1 hb2 h h1 h2 h3 h4 h5 hXb hq hW hn hN hn0 hlen
  refine callsIn_wide.2 ?_
  go_enter Try.func48, Try.ntmps48
  go_wp2_with fail
  go_quiet (fail)
  go_wp2_with fail
  go_loopw [18] (fun at_ wr => recRel n0 (l.drop k) X n c Kb J at_ wr) (fun at_ _ => n - (intOf at_).toNat)
  case atStart => exact HST.out nq
  case round =>
    obtain ⟨i, rfl, hin, hs, hj, hz⟩ := hrel
    by_cases hi : i < n
    · have hii : (i : Int) < (n : Int) := by omega
      obtain ⟨x, A1, q1, a1, ad, hx, hq1, hXa, hcell, hrow, hql, hqc⟩ := rec_get hs hi HLN.out
      subst hXa
      have HS := Lib.hid hs
      have HX := Lib.hid hx
      have HQ := Lib.hid hq1
      have HRW := Lib.hid hrow
      clear hs hx hq1 hrow
      go_upto_region 3 with fail
      refine (wpIn_wide (n := 0)).1 ?_
      gi_wp2_with (first
        | (refine ⟨trivial, rfl, ?_⟩; gi_at_call 29; refine (callsIn_wide.2 (clone_q A1 q1 a1 x _ HQ.out hqc hql (by exact HRW.out))).mono ?_; rintro e w3 ⟨A3, c3, rfl, hown3, hb3⟩;
            have hown3' : w3.ownsRow n0 5 1 (.slice A3 x.length c3) x.length (u8s x) := (by rw [HQ.out]; exact own_lower hown3 hz);
            obtain ⟨fn, tm, asg, bod, hy, hR⟩ := HY.out i x w3 #[.slice A3 q1 c3] (HJ.out.1 _ _ _ hj (below_grown hb3)) HX.out ⟨A3, c3, by rw [HQ.out], hown3'⟩)
        | (refine ⟨rfl, ?_⟩; refine hR.mono ?_; rintro e w4 h4; obtain ⟨b, rfl, hb4⟩ := rec_ways h4; clear h4)
        | fail)
      have hlen1 : i + 1 ≤ (l.drop k).length := (List.getElem?_eq_some_iff.1 HX.out).1
      rcases hb4.out with ⟨rfl, hj4, hk4⟩ | ⟨rfl, hx4⟩
      · have HS4 : Hid (RecSee Kb (l.drop k) (some ad) n c w4) := Lib.hid (HS.out.keep fun b hlt hb => (hk4.2 b hb).trans (hb3.block b hlt))
        have HJ4 := Lib.hid hj4
        have hz4 : n0 ≤ w4.heap.size := Nat.le_trans (Nat.le_trans hz hb3.size) hk4.1
        clear hj4 hk4 hj hown3 hown3' hb3 hy hR
        go_wp2
        go_roundw
        case rel => exact ⟨i + 1, by go_num, hi, HS4.out, HJ4.out, hz4⟩
        case measure => simp [intOf]; omega
      · go_wp2
        refine bodyPost_ret (results_none rfl _ _ _) rfl ?_
        exact ⟨⟨_, rfl⟩, .inr ⟨i + 1, by rw [← List.length_drop]; exact hlen1, hx4⟩⟩
    · have hii : ¬ (i : Int) < (n : Int) := by omega
      obtain rfl : i = n := by omega
      go_wp2_with fail
      go_end0
      refine ⟨⟨_, rfl⟩, .inl ?_⟩
      obtain ⟨cells, h1, _⟩ := hs
      rw [List.length_drop] at h1
      first | (rw [h1]; exact hj) | (simpa [h1] using hj)
end Go.Proofs.Ytbnbeailbhnbdaa
