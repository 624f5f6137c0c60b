/-
  slices.Backward of bytes; a range over such pairs.
-/
import Derived.Test.YtoongmoajnedlaaGreatProg
import Derived.Test.YtoongmoajnedlaaGreatWireP
import Derived.Test.YtoongmoajnedlaaGreatOut
import Derived.Test.YtoongmoajnedlaaGreatRange
import Derived.Stop.RegionWithIn
import Derived.BigRegionIn
import Derived.Deep.CutRange
import Derived.Deep.DeepCutAuto
import Derived.RegionTactic
import Derived.BigRegion
set_option linter.unusedVariables false
set_option linter.unusedSimpArgs false
namespace Go.Proofs.YtoongmoajnedlaaGreat
open Go.RowKit

def NoStep (_ _ : World) : Prop := False
theorem rec_ways {e : Ending} {p q : Prop} (h : (e = .returned (.bool true) ∧ p) ∨ (e = .returned (.bool false) ∧ q)) : ∃ b, e = .returned (.bool b) ∧ Hid ((b = true ∧ p) ∨ (b = false ∧ q)) := by
  rcases h with ⟨rfl, h⟩ | ⟨rfl, h⟩
  · exact ⟨true, rfl, .inl ⟨rfl, h⟩⟩
  · exact ⟨false, rfl, .inr ⟨rfl, h⟩⟩
/-- wp_rangeX for pairs, without a break; the frame behind the assignment is a function of the pair. -/
theorem wp_rangeB {P : Program} (F : Nat → Int → Act) {g : Operand} {ps : Array Tmp} {assign body : Code} {Q : Exit → Act → World → Prop} {a : Act} {w : World}
    {gf : Nat} {lb : Array Value} (hg : a.eval g = .func (.func gf) #[] lb) (eg : ∀ args w, (callFunc gf args).run P w = .ok (.enter gf args) w)
    {enc : Nat → Nat × Int → Array Value → World → Prop} {xs : List (Nat × Int)} {Kb : Nat → Prop} {w0 : World} (hseq : SeqX P gf lb enc xs NoStep Kb w0)
    (hKb : ∀ b, Kb b → b < w.heap.size) (hb0 : Below w0.heap.size w0 w) (hps : ∀ k x args W, enc k x args W → args.size = ps.size)
    (I : Nat → World → Prop) (hI : OwnFrom w.heap.size I) (h0 : I 0 w)
    (hassign : ∀ (l k i : Nat) (v : Int) (args : Array Value) (W : World) (K : Act → World → Prop), xs[k]? = some (i, v) → enc k (i, v) args W → I k W → (∀ W', KeepsFrom w.heap.size W W' → KeptOn Kb W W' → I k W' → K (F i v) W') →
      assign.wpIn (Fence.wide.inRound l) 0 P (Exit.then K (fun _ _ _ => False)) { tmps := (ps.zip args).foldl (fun t (p, v) => t.setIfInBounds p v) a.tmps, defers := [] } W)
    (hbody : ∀ (l k i : Nat) (v : Int) (W : World), xs[k]? = some (i, v) → I k W → body.wpIn (Fence.wide.inRound l) 0 P (roundX w.heap.size Kb I (fun _ _ _ => False) k W) (F i v) W)
    (hdone : ∀ (D : Nat) (W : World), w.heap.size ≤ D → I xs.length W → W.heap[D]? = some (.deferred (some [])) → Q .normal { a with defers := { target := .collected D, args := #[] } :: a.defers } W) :
    (Code.rangeFunc g ps assign body).wpIn Fence.wide 0 P Q a w := by
  refine wp_rangeX hg eg hseq (fun A B k o h => h.elim) hKb hb0 hps I (fun _ _ _ => False) hI (fun _ _ _ _ _ h _ _ => h) (fun k A B h h' => h'.elim) (fun _ _ _ _ h _ => h) h0 (fun j a' W => ∃ i v, xs[j]? = some (i, v) ∧ a' = F i v) (fun j a' _ X Y row h _ _ => h) ?_ ?_ hdone (fun D c k W hD hk h => h.elim)
  · rintro l k ⟨i, v⟩ args W K hx he hi hK
    exact hassign l k i v args W K hx he hi (fun W' h1 h2 h3 => hK _ _ h1 h2 h3 ⟨i, v, hx, rfl⟩)
  · rintro l k ⟨i, v⟩ a' W hx hi ⟨i', v', hx', rfl⟩
    rw [hx] at hx'
    cases hx'
    exact hbody l k i v W hx hi
theorem back_any (v : Value) (hv : v.oneCell' = true) (w : World) : Calls Tryz.prog 175 #[v] w fun e w' => e = .returned (.func (.func 187) #[] #[.pointer (some ⟨w.heap.size, 0, none⟩)]) ∧ w.alloc (.cells #[v] 29) = w' := by
  cases v <;> first | cases hv | skip
  all_goals
    go_enter Tryz.func175, Tryz.ntmps175
    go_wp2
    try go_ret
    try exact ⟨rfl, rfl⟩
/-- Places and numbers, from the end. -/
def backL (os : List UInt8) : List (Nat × Int) := (List.range os.length).map fun k => (os.length - 1 - k, ((os.getD (os.length - 1 - k) 0).toNat : Int))
theorem backL_length (os : List UInt8) : (backL os).length = os.length := by simp [backL]
theorem backL_get {os : List UInt8} {k : Nat} (hk : k < os.length) : (backL os)[k]? = some (os.length - 1 - k, ((os.getD (os.length - 1 - k) 0).toNat : Int)) := by
  unfold backL
  rw [List.getElem?_map, List.getElem?_range hk]
  rfl
def backEnc (k : Nat) (x : Nat × Int) (args : Array Value) (W : World) : Prop := args = #[.int .i64 (x.1 : Int), .int .u8 x.2]
/-- A row of numbers behind a box. -/
def OrdSee (Kb : Nat → Prop) (B : Nat) (A : Option Addr) (n c : Nat) (os : List UInt8) (W : World) : Prop :=
  W.cell? ⟨B, 0, none⟩ = some (.slice A n c) ∧ os.length = n ∧ Sees W A (u8s os) ∧ Kb B ∧ (0 < n → ∀ ad, A = some ad → Kb ad.block)
theorem OrdSee.keep {Kb : Nat → Prop} {B n c : Nat} {A : Option Addr} {os : List UInt8} {W W' : World} (h : OrdSee Kb B A n c os W) (hk : ∀ b, b < W.heap.size → Kb b → W'.heap[b]? = W.heap[b]?) : OrdSee Kb B A n c os W' := by
  obtain ⟨h1, h2, h3, h4, h5⟩ := h
  refine ⟨?_, h2, fun j u hj => ?_, h4, h5⟩
  · rw [World.cell?_of_block (hk _ (World.block_lt_of_cell? _ _ h1) h4)]
    exact h1
  · obtain ⟨ad, e, hc⟩ := h3 j u hj
    refine ⟨ad, e, ?_⟩
    rw [World.cell?_of_block (hk _ (World.block_lt_of_cell? _ _ hc) (by rw [add_blk]; exact h5 (by have := (List.getElem?_eq_some_iff.1 hj).1; rw [u8s_length] at this; omega) ad e))]
    exact hc
theorem OrdSee.get {Kb : Nat → Prop} {B n c i : Nat} {A : Option Addr} {os : List UInt8} {W : World} (h : OrdSee Kb B A n c os W) (hi : i < n) : ∃ ad, A = some ad ∧ W.cell? (ad.add i) = some (.int .u8 ((os.getD i 0).toNat : Int)) := by
  obtain ⟨h1, h2, h3, h4, h5⟩ := h
  obtain ⟨ad, e, hc⟩ := h3 i (.int .u8 ((os.getD i 0).toNat : Int)) (by
    unfold u8s
    rw [List.getElem?_map, List.getElem?_eq_getElem (by omega), List.getD_eq_getElem?_getD, List.getElem?_eq_getElem (by omega)]
    rfl)
  exact ⟨ad, e, hc⟩
def backRel (Kb : Nat → Prop) (B : Nat) (A : Option Addr) (n c : Nat) (os : List UInt8) (J : Nat → World → Prop) (at_ : Value) (wr : World) : Prop :=
  ∃ k : Nat, at_ = .int .i64 ((n : Int) - 1 - (k : Int)) ∧ k ≤ n ∧ OrdSee Kb B A n c os wr ∧ J k wr
set_option maxHeartbeats 4000000 in
theorem back_seq (Kb : Nat → Prop) (B : Nat) (A : Option Addr) (n c : Nat) (os : List UInt8) (w : World) (h : OrdSee Kb B A n c os w) (hn : n ≤ 140737488355328) :
    SeqX Tryz.prog 187 #[.pointer (some ⟨B, 0, none⟩)] backEnc (backL os) NoStep Kb w := by
  intro ll J Jx W hW hJ hJx hY h0
  have hs := h.keep (W' := W) (fun b hlt _ => hW.block b hlt)
  have hlen := h.2.1
  have hb := hs.1
  have HST : Hid (backRel Kb B A n c os J (.int .i64 ((n : Int) - 1)) W) := Lib.hid ⟨0, by go_num, Nat.zero_le _, hs, h0⟩
  have HJ := Lib.hid hJ
  have HJx := Lib.hid hJx
  have HY := Lib.hid hY
  have HLN := Lib.hid hlen
  clear hJ hJx hY h0 hs h hW hlen
  refine callsIn_wide.2 ?_
  go_enter Tryz.func187, Tryz.ntmps187
  go_wp2_with fail
  go_loopw [3] (fun at_ wr => backRel Kb B A n c os J at_ wr) (fun at_ _ => (intOf at_ + 1).toNat)
  case atStart => exact HST.out
  case round =>
    obtain ⟨k, rfl, hk, hs, hj⟩ := hrel
    by_cases hi : k < n
    · obtain ⟨i, hii⟩ : ∃ i : Nat, (n : Int) - 1 - (k : Int) = (i : Int) := ⟨n - 1 - k, by omega⟩
      rw [hii]
      have hin : i < n := by omega
      have hini : (i : Int) < (n : Int) := by omega
      have hi0 : (0 : Int) ≤ (i : Int) := by omega
      obtain ⟨ad, rfl, hc⟩ := hs.get hin
      have hbx := hs.1
      obtain ⟨v, hv⟩ : ∃ v : Int, ((os.getD i 0).toNat : Int) = v := ⟨_, rfl⟩
      rw [hv] at hc
      have hx : (backL os)[k]? = some (i, v) := by
        have := backL_get (os := os) (k := k) (by rw [HLN.out]; exact hi)
        rw [HLN.out, show n - 1 - k = i by omega, hv] at this
        exact this
      have HX := Lib.hid hx
      have HS := Lib.hid hs
      have HII := Lib.hid hii
      clear hx hs hii hv
      go_upto_region 3 with fail
      refine (wpIn_wide (n := 0)).1 ?_
      obtain ⟨fn, tm, asg, bod, hy, hR⟩ := HY.out k (i, v) wr #[.int .i64 (i : Int), .int .u8 v] hj HX.out rfl
      gi_wp2_with (first
        | (refine ⟨rfl, ?_⟩; refine hR.mono ?_; rintro e w4 h4; obtain ⟨b, rfl, hb4⟩ := rec_ways h4; clear h4)
        | fail)
      have hlen1 : k + 1 ≤ (backL os).length := (List.getElem?_eq_some_iff.1 HX.out).1
      rcases hb4.out with ⟨rfl, hj4, hk4⟩ | ⟨rfl, hx4⟩
      · have HS4 : Hid (OrdSee Kb B (some ad) n c os w4) := Lib.hid (HS.out.keep fun b hlt hb => hk4.2 b hb)
        have HJ4 := Lib.hid hj4
        clear hj4 hk4 hj hy hR
        go_wp2
        go_roundw
        case rel =>
          refine ⟨k + 1, ?_, hi, HS4.out, HJ4.out⟩
          have := HII.out
          rw [show (n : Int) - 1 - ((k + 1 : Nat) : Int) = (i : Int) - 1 by omega]
        case measure => simp [intOf]
      · go_wp2
        refine bodyPost_ret (results_none rfl _ _ _) rfl ?_
        exact ⟨⟨_, rfl⟩, .inr ⟨k + 1, hlen1, hx4⟩⟩
    · have hni : ¬ (0 : Int) ≤ (n : Int) - 1 - (k : Int) := by omega
      obtain rfl : k = n := by omega
      go_wp2_with fail
      go_end0
      refine ⟨⟨_, rfl⟩, .inl ?_⟩
      rw [backL_length, HLN.out]
      exact hj
end Go.Proofs.YtoongmoajnedlaaGreat
