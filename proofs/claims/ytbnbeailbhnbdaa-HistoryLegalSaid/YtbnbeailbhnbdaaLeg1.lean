/-
  slices.Backward of numbers.
-/
import Derived.Test.YtbnbeailbhnbdaaFitB
set_option linter.unusedVariables false
set_option linter.unusedSimpArgs false
namespace Go.Proofs.Ytbnbeailbhnbdaa
open Go.RowKit

theorem back_any (v : Value) (hv : v.oneCell' = true) (w : World) : Calls Try.prog 31 #[v] w fun e w' => e = .returned (.func (.func 49) #[] #[.pointer (some ⟨w.heap.size, 0, none⟩)]) ∧ w.alloc (.cells #[v] 41) = w' := by
  cases v <;> first | cases hv | skip
  all_goals
    go_enter Try.func31, Try.ntmps31
    go_wp2
    try go_ret
    try exact ⟨rfl, rfl⟩
/-- Places and numbers, from the end. -/
def backL (os : List Int) : List (Nat × Int) := (List.range os.length).map fun k => (os.length - 1 - k, os.getD (os.length - 1 - k) 0)
theorem backL_length (os : List Int) : (backL os).length = os.length := by simp [backL]
theorem backL_get {os : List Int} {k : Nat} (hk : k < os.length) : (backL os)[k]? = some (os.length - 1 - k, os.getD (os.length - 1 - k) 0) := by
  unfold backL
  rw [List.getElem?_map, List.getElem?_range hk]
  rfl
def backEnc (k : Nat) (x : Nat × Int) (args : Array Value) (W : World) : Prop := args = #[.int .i64 (x.1 : Int), .int .i64 x.2]
/-- A row of numbers behind a box. -/
def OrdSee (Kb : Nat → Prop) (B : Nat) (A : Option Addr) (n c : Nat) (os : List Int) (W : World) : Prop :=
  W.cell? ⟨B, 0, none⟩ = some (.slice A n c) ∧ os.length = n ∧ Sees W A (os.map i64v) ∧ Kb B ∧ (0 < n → ∀ ad, A = some ad → Kb ad.block)
theorem OrdSee.keep {Kb : Nat → Prop} {B n c : Nat} {A : Option Addr} {os : List Int} {W W' : World} (h : OrdSee Kb B A n c os W) (hk : ∀ b, b < W.heap.size → Kb b → W'.heap[b]? = W.heap[b]?) : OrdSee Kb B A n c os W' := by
  obtain ⟨h1, h2, h3, h4, h5⟩ := h
  refine ⟨?_, h2, fun j u hj => ?_, h4, h5⟩
  · rw [World.cell?_of_block (hk _ (World.block_lt_of_cell? _ _ h1) h4)]
    exact h1
  · obtain ⟨ad, e, hc⟩ := h3 j u hj
    refine ⟨ad, e, ?_⟩
    rw [World.cell?_of_block (hk _ (World.block_lt_of_cell? _ _ hc) (by rw [add_blk]; exact h5 (by have := (List.getElem?_eq_some_iff.1 hj).1; rw [List.length_map] at this; omega) ad e))]
    exact hc
theorem OrdSee.get {Kb : Nat → Prop} {B n c i : Nat} {A : Option Addr} {os : List Int} {W : World} (h : OrdSee Kb B A n c os W) (hi : i < n) : ∃ ad, A = some ad ∧ W.cell? (ad.add i) = some (.int .i64 (os.getD i 0)) := by
  obtain ⟨h1, h2, h3, h4, h5⟩ := h
  obtain ⟨ad, e, hc⟩ := h3 i (.int .i64 (os.getD i 0)) (by
    rw [List.getElem?_map, List.getElem?_eq_getElem (by omega), getD_of (by omega)]
    rfl)
  exact ⟨ad, e, hc⟩
def backRel (Kb : Nat → Prop) (B : Nat) (A : Option Addr) (n c : Nat) (os : List Int) (J : Nat → World → Prop) (at_ : Value) (wr : World) : Prop :=
  ∃ k : Nat, at_ = .int .i64 ((n : Int) - 1 - (k : Int)) ∧ k ≤ n ∧ OrdSee Kb B A n c os wr ∧ J k wr
set_option maxHeartbeats 4000000 in
theorem back_seq (Kb : Nat → Prop) (B : Nat) (A : Option Addr) (n c : Nat) (os : List Int) (w : World) (h : OrdSee Kb B A n c os w) (hn : n ≤ 140737488355328) :
    SeqX Try.prog 49 #[.pointer (some ⟨B, 0, none⟩)] backEnc (backL os) NoStep Kb w := by
  intro ll J Jx W hW hJ hJx hY h0
  have hs := h.keep (W' := W) (fun b hlt _ => hW.block b hlt)
  have hlen := h.2.1
  have hb := hs.1
  have HST : Hid (backRel Kb B A n c os J (.int .i64 ((n : Int) - 1)) W) := Lib.hid ⟨0, by go_num, Nat.zero_le _, hs, h0⟩
  have HJ := Lib.hid hJ
  have HJx := Lib.hid hJx
  have HY := Lib.hid hY
  have HLN := Lib.hid hlen
  clear hJ hJx hY h0 hs h hW hlen
  refine callsIn_wide.2 ?_
  go_enter Try.func49, Try.ntmps49
  go_wp2_with fail
  go_loopw [3] (fun at_ wr => backRel Kb B A n c os J at_ wr) (fun at_ _ => (intOf at_ + 1).toNat)
  case atStart => exact HST.out
  case round =>
    obtain ⟨k, rfl, hk, hs, hj⟩ := hrel
    by_cases hi : k < n
    · obtain ⟨i, hii⟩ : ∃ i : Nat, (n : Int) - 1 - (k : Int) = (i : Int) := ⟨n - 1 - k, by omega⟩
      rw [hii]
      have hin : i < n := by omega
      have hini : (i : Int) < (n : Int) := by omega
      have hi0 : (0 : Int) ≤ (i : Int) := by omega
      obtain ⟨ad, rfl, hc⟩ := hs.get hin
      have hbx := hs.1
      obtain ⟨v, hv⟩ : ∃ v, os.getD i 0 = v := ⟨_, rfl⟩
      rw [hv] at hc
      have hx : (backL os)[k]? = some (i, v) := by
        have := backL_get (os := os) (k := k) (by rw [HLN.out]; exact hi)
        rw [HLN.out, show n - 1 - k = i by omega, hv] at this
        exact this
      have HX := Lib.hid hx
      have HS := Lib.hid hs
      have HII := Lib.hid hii
      clear hx hs hii hv
      go_upto_region 3 with fail
      refine (wpIn_wide (n := 0)).1 ?_
      obtain ⟨fn, tm, asg, bod, hy, hR⟩ := HY.out k (i, v) wr #[.int .i64 (i : Int), .int .i64 v] hj HX.out rfl
      gi_wp2_with (first
        | (refine ⟨rfl, ?_⟩; refine hR.mono ?_; rintro e w4 h4; obtain ⟨b, rfl, hb4⟩ := rec_ways h4; clear h4)
        | fail)
      have hlen1 : k + 1 ≤ (backL os).length := (List.getElem?_eq_some_iff.1 HX.out).1
      rcases hb4.out with ⟨rfl, hj4, hk4⟩ | ⟨rfl, hx4⟩
      · have HS4 : Hid (OrdSee Kb B (some ad) n c os w4) := Lib.hid (HS.out.keep fun b hlt hb => hk4.2 b hb)
        have HJ4 := Lib.hid hj4
        clear hj4 hk4 hj hy hR
        go_wp2
        go_roundw
        case rel =>
          refine ⟨k + 1, ?_, hi, HS4.out, HJ4.out⟩
          have := HII.out
          rw [show (n : Int) - 1 - ((k + 1 : Nat) : Int) = (i : Int) - 1 by omega]
        case measure => simp [intOf]
      · go_wp2
        refine bodyPost_ret (results_none rfl _ _ _) rfl ?_
        exact ⟨⟨_, rfl⟩, .inr ⟨k + 1, hlen1, hx4⟩⟩
    · have hni : ¬ (0 : Int) ≤ (n : Int) - 1 - (k : Int) := by omega
      obtain rfl : k = n := by omega
      go_wp2_with fail
      go_end0
      refine ⟨⟨_, rfl⟩, .inl ?_⟩
      rw [backL_length, HLN.out]
      exact hj
end Go.Proofs.Ytbnbeailbhnbdaa
