/-
  slices' stable sort at numbers: swapRange, rotate.
-/
import Derived.Test.YtbnbeailbhnbdaaProg
import Derived.Test.YtbnbeailbhnbdaaSrtP
import Derived.Test.YtbnbeailbhnbdaaStep
import Derived.Deep.LoopGhost
set_option linter.unusedVariables false
set_option linter.unusedSimpArgs false
namespace Go.Proofs.Ytbnbeailbhnbdaa
open Go.RowKit

/-- Block g holds these numbers. -/
def ArrAt (g : Nat) (ds : List Int) (W : World) : Prop := W.heap[g]? = some (.cells (ds.map i64v).toArray 3 (0, 0))
section
variable {g : Nat} {ds : List Int} {W : World}
theorem ArrAt.cell (h : ArrAt g ds W) {i : Nat} (hi : i < ds.length) : W.cell? ⟨g, i, none⟩ = some (.int .i64 (ds.getD i 0)) := by
  rw [cell_of_row W g i _ _ _ h, getD_of hi]
  simp [hi, i64v]
theorem ArrAt.frozen (h : ArrAt g ds W) (i : Nat) : W.frozen? ⟨g, i, none⟩ = false := by
  unfold ArrAt at h
  simp [World.frozen?, h]
theorem ArrAt.set (h : ArrAt g ds W) (i : Nat) (v : Int) : ArrAt g (ds.set i v) (W.setCell ⟨g, i, none⟩ (.int .i64 v)) := by
  unfold ArrAt at *
  simp [World.setCell, Array.getElem?_modify, h, List.map_set, i64v]
theorem ArrAt.swap (h : ArrAt g ds W) {i j : Nat} {x y : Int} (hx : ds.getD i 0 = x) (hy : ds.getD j 0 = y) : ArrAt g (swapL ds i j) ((W.setCell ⟨g, i, none⟩ (.int .i64 y)).setCell ⟨g, j, none⟩ (.int .i64 x)) := by
  subst hx hy
  exact (h.set i _).set j _
theorem ArrAt.lt (h : ArrAt g ds W) : g < W.heap.size := (Array.getElem?_eq_some_iff.1 h).1
theorem ArrAt.drew (h : ArrAt g ds W) : ArrAt g ds W.drew := h
theorem ArrAt.below {W' : World} (h : ArrAt g ds W) (hb : Below W.heap.size W W') : ArrAt g ds W' := (hb.block g h.lt).trans h
end
theorem out_swap {g : Nat} {w W : World} (h : Outside (· = g) w W) (i j : Nat) (x y : Value) : Outside (· = g) w ((W.drew.setCell ⟨g, i, none⟩ x).setCell ⟨g, j, none⟩ y) := (h.drew.set ⟨g, i, none⟩ x (.inr rfl)).set ⟨g, j, none⟩ y (.inr rfl)
/-- The row holds other numbers; nothing else has turned. -/
def RetArr (g : Nat) (ds : List Int) (w : World) (e : Ending) (w' : World) : Prop := e = .returned (.tuple #[]) ∧ ArrAt g ds w' ∧ Outside (· = g) w w'
theorem range_step (P X Q Y S : List Int) {n k : Nat} (hX : X.length = n) (hY : Y.length = n) (hk : k < n) {a b : Nat} (ha : P.length = a) (hb : a + n + Q.length = b) :
    swapL (P ++ (Y.take k ++ X.drop k) ++ Q ++ (X.take k ++ Y.drop k) ++ S) (a + k) (b + k) = P ++ (Y.take (k + 1) ++ X.drop (k + 1)) ++ Q ++ (X.take (k + 1) ++ Y.drop (k + 1)) ++ S := by
  have hx : X.drop k = X[k]'(by omega) :: X.drop (k + 1) := by rw [List.getElem_cons_drop]
  have hy : Y.drop k = Y[k]'(by omega) :: Y.drop (k + 1) := by rw [List.getElem_cons_drop]
  have hx2 : X.take (k + 1) = X.take k ++ [X[k]'(by omega)] := by rw [List.take_succ_eq_append_getElem (by omega)]
  have hy2 : Y.take (k + 1) = Y.take k ++ [Y[k]'(by omega)] := by rw [List.take_succ_eq_append_getElem (by omega)]
  have := swap_far (P ++ Y.take k) (X.drop (k + 1) ++ Q ++ X.take k) (Y.drop (k + 1) ++ S) (X[k]'(by omega)) (Y[k]'(by omega))
  rw [hx, hy, hx2, hy2]
  have e1 : (P ++ Y.take k).length = a + k := by rw [List.length_append, List.length_take]; omega
  have e2 : (P ++ Y.take k ++ X[k]'(by omega) :: (X.drop (k + 1) ++ Q ++ X.take k)).length = b + k := by simp only [List.length_append, List.length_cons, List.length_take, List.length_drop]; omega
  rw [e1, e2] at this
  simp only [List.append_assoc, List.cons_append, List.nil_append] at this ⊢
  exact this
theorem parts_len (P X Q Y S : List Int) {n k : Nat} (hX : X.length = n) (hY : Y.length = n) (hk : k ≤ n) : (P ++ (Y.take k ++ X.drop k) ++ Q ++ (X.take k ++ Y.drop k) ++ S).length = (P ++ X ++ Q ++ Y ++ S).length := by
  simp only [List.length_append, List.length_take, List.length_drop]
  omega
set_option maxHeartbeats 1000000 in
theorem swapRange_any (g a b n len : Nat) (P X Q Y S : List Int) (fv : Value) (w : World) (h : ArrAt g (P ++ X ++ Q ++ Y ++ S) w) (hP : P.length = a) (hX : X.length = n) (hY : Y.length = n) (hb : a + n + Q.length = b) (hl : (P ++ X ++ Q ++ Y ++ S).length = len) (hm : len ≤ 140737488355328) :
    Calls Try.prog 61 #[.slice (some ⟨g, 0, none⟩) len len, .int .i64 (a : Int), .int .i64 (b : Int), .int .i64 (n : Int), fv] w (RetArr g (P ++ Y ++ Q ++ X ++ S) w) := by
  have hbl : b + n ≤ len := by
    rw [← hl]
    simp only [List.length_append]
    omega
  have H := Lib.hid h
  have HP := Lib.hid hP
  have HX := Lib.hid hX
  have HY := Lib.hid hY
  have HB := Lib.hid hb
  have HL := Lib.hid hl
  have hab : a + n ≤ b := by omega
  clear h hP hX hY hb hl
  go_enter Try.func61, Try.ntmps61
  go_wp2_with fail
  go_loopw [10] (fun s wr => ∃ k : Nat, s = .int .i64 (k : Int) ∧ k ≤ n ∧ ArrAt g (P ++ (Y.take k ++ X.drop k) ++ Q ++ (X.take k ++ Y.drop k) ++ S) wr ∧ Outside (· = g) w wr) (fun s _ => n - (intOf s).toNat)
  case atStart => exact ⟨0, rfl, Nat.zero_le _, by simpa using H.out, Outside.refl _ _⟩
  case round =>
    obtain ⟨k, rfl, hk, harr, hout⟩ := hrel
    have hlen := parts_len P X Q Y S HX.out HY.out hk
    rw [HL.out] at hlen
    have HO := Lib.hid hout
    by_cases hlt : k < n
    · have hki : (k : Int) < (n : Int) := by omega
      have HST := Lib.hid (range_step P X Q Y S HX.out HY.out hlt HP.out HB.out)
      obtain ⟨ds, hds⟩ : ∃ ds, P ++ (Y.take k ++ X.drop k) ++ Q ++ (X.take k ++ Y.drop k) ++ S = ds := ⟨_, rfl⟩
      rw [hds] at harr hlen HST
      have HA := Lib.hid harr
      have hca := harr.cell (i := a + k) (by omega)
      have hcb := harr.cell (i := b + k) (by omega)
      have hfa := harr.frozen (a + k)
      have hfb := harr.frozen (b + k)
      obtain ⟨x, hx⟩ : ∃ x, ds.getD (a + k) 0 = x := ⟨_, rfl⟩
      obtain ⟨y, hy⟩ : ∃ y, ds.getD (b + k) 0 = y := ⟨_, rfl⟩
      rw [hx] at hca
      rw [hy] at hcb
      have HXX := Lib.hid hx
      have HYY := Lib.hid hy
      have ea : IntKind.i64.wrap ((a : Int) + (k : Int)) = (a : Int) + (k : Int) := IntWalk.i64_in _ (by omega)
      have eb : IntKind.i64.wrap ((b : Int) + (k : Int)) = (b : Int) + (k : Int) := IntWalk.i64_in _ (by omega)
      have la : (a : Int) + (k : Int) < (len : Int) := by omega
      have lb : (b : Int) + (k : Int) < (len : Int) := by omega
      have ga : (0 : Int) ≤ (a : Int) + (k : Int) := by omega
      have gb : (0 : Int) ≤ (b : Int) + (k : Int) := by omega
      have ta : ((a : Int) + (k : Int)).toNat = a + k := by omega
      have tb : ((b : Int) + (k : Int)).toNat = b + k := by omega
      have hne : (⟨g, a + k, none⟩ : Addr) ≠ ⟨g, b + k, none⟩ := by intro e; injection e; omega
      have da : wr.drew.cell? ⟨g, a + k, none⟩ = _ := hca
      have db : wr.drew.cell? ⟨g, b + k, none⟩ = _ := hcb
      have fa : wr.drew.frozen? ⟨g, a + k, none⟩ = false := hfa
      have fb : wr.drew.frozen? ⟨g, b + k, none⟩ = false := hfb
      clear hds harr hx hy hout
      go_wp2_with fail
      go_region_law (fail)
      all_goals go_wp2
      all_goals go_roundw
      all_goals first
        | (refine ⟨k + 1, by go_num, by omega, ?_, out_swap HO.out _ _ _ _⟩
           rw [← HST.out]
           exact HA.out.drew.swap HXX.out HYY.out)
        | (simp [intOf]; omega)
    · obtain rfl : k = n := by omega
      have hki : ¬ ((k : Int) < (k : Int)) := by omega
      have HA := Lib.hid harr
      clear harr hout
      go_wp2_with fail
      go_end0
      refine ⟨rfl, ?_, HO.out⟩
      have := HA.out
      rw [List.take_of_length_le (by rw [HY.out]; omega), List.take_of_length_le (by rw [HX.out]; omega), List.drop_of_length_le (by rw [HX.out]; omega), List.drop_of_length_le (by rw [HY.out]; omega), List.append_nil, List.append_nil] at this
      simpa only [List.append_assoc] using this
end Go.Proofs.Ytbnbeailbhnbdaa
