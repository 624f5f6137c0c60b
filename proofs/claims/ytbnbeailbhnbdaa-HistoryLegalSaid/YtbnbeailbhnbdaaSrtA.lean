/-
  slices' stable sort at numbers: swapRange, rotate.
-/
import Derived.Test.YtbnbeailbhnbdaaProg
import Derived.Test.YtbnbeailbhnbdaaSrtP
import Derived.Test.YtbnbeailbhnbdaaStep
import Derived.Deep.LoopGhost
import Derived.Deep.RegionHeld3
set_option linter.unusedVariables false
set_option linter.unusedSimpArgs false
namespace Go.Proofs.Ytbnbeailbhnbdaa
open Go.RowKit

/-- Block g holds these numbers. -/
def ArrAt (g : Nat) (ds : List Int) (W : World) : Prop := W.heap[g]? = some (.cells (ds.map i64v).toArray 3 (0, 0))
section
variable {g : Nat} {ds : List Int} {W : World}
theorem ArrAt.cell (h : ArrAt g ds W) {i : Nat} (hi : i < ds.length) : W.cell? ⟨g, i, none⟩ = some (.int .i64 (ds.getD i 0)) := by
  rw [cell_of_row W g i _ _ _ h, getD_of hi]
  simp [hi, i64v]
theorem ArrAt.frozen (h : ArrAt g ds W) (i : Nat) : W.frozen? ⟨g, i, none⟩ = false := by
  unfold ArrAt at h
  simp [World.frozen?, h]
theorem ArrAt.set (h : ArrAt g ds W) (i : Nat) (v : Int) : ArrAt g (ds.set i v) (W.setCell ⟨g, i, none⟩ (.int .i64 v)) := by
  unfold ArrAt at *
  simp [World.setCell, Array.getElem?_modify, h, List.map_set, i64v]
theorem ArrAt.swap (h : ArrAt g ds W) {i j : Nat} {x y : Int} (hx : ds.getD i 0 = x) (hy : ds.getD j 0 = y) : ArrAt g (swapL ds i j) ((W.setCell ⟨g, i, none⟩ (.int .i64 y)).setCell ⟨g, j, none⟩ (.int .i64 x)) := by
  subst hx hy
  exact (h.set i _).set j _
theorem ArrAt.lt (h : ArrAt g ds W) : g < W.heap.size := (Array.getElem?_eq_some_iff.1 h).1
theorem ArrAt.drew (h : ArrAt g ds W) : ArrAt g ds W.drew := h
theorem ArrAt.below {W' : World} (h : ArrAt g ds W) (hb : Below W.heap.size W W') : ArrAt g ds W' := (hb.block g h.lt).trans h
end
theorem out_swap {g : Nat} {w W : World} (h : Outside (· = g) w W) (i j : Nat) (x y : Value) : Outside (· = g) w ((W.drew.setCell ⟨g, i, none⟩ x).setCell ⟨g, j, none⟩ y) := (h.drew.set ⟨g, i, none⟩ x (.inr rfl)).set ⟨g, j, none⟩ y (.inr rfl)
/-- The row holds other numbers; nothing else has turned. -/
def RetArr (g : Nat) (ds : List Int) (w : World) (e : Ending) (w' : World) : Prop := e = .returned (.tuple #[]) ∧ ArrAt g ds w' ∧ Outside (· = g) w w'
theorem range_step (P X Q Y S : List Int) {n k : Nat} (hX : X.length = n) (hY : Y.length = n) (hk : k < n) {a b : Nat} (ha : P.length = a) (hb : a + n + Q.length = b) :
    swapL (P ++ (Y.take k ++ X.drop k) ++ Q ++ (X.take k ++ Y.drop k) ++ S) (a + k) (b + k) = P ++ (Y.take (k + 1) ++ X.drop (k + 1)) ++ Q ++ (X.take (k + 1) ++ Y.drop (k + 1)) ++ S := by
  have hx : X.drop k = X[k]'(by omega) :: X.drop (k + 1) := by rw [List.getElem_cons_drop]
  have hy : Y.drop k = Y[k]'(by omega) :: Y.drop (k + 1) := by rw [List.getElem_cons_drop]
  have hx2 : X.take (k + 1) = X.take k ++ [X[k]'(by omega)] := by rw [List.take_succ_eq_append_getElem (by omega)]
  have hy2 : Y.take (k + 1) = Y.take k ++ [Y[k]'(by omega)] := by rw [List.take_succ_eq_append_getElem (by omega)]
  have := swap_far (P ++ Y.take k) (X.drop (k + 1) ++ Q ++ X.take k) (Y.drop (k + 1) ++ S) (X[k]'(by omega)) (Y[k]'(by omega))
  rw [hx, hy, hx2, hy2]
  have e1 : (P ++ Y.take k).length = a + k := by rw [List.length_append, List.length_take]; omega
  have e2 : (P ++ Y.take k ++ X[k]'(by omega) :: (X.drop (k + 1) ++ Q ++ X.take k)).length = b + k := by simp only [List.length_append, List.length_cons, List.length_take, List.length_drop]; omega
  rw [e1, e2] at this
  simp only [List.append_assoc, List.cons_append, List.nil_append] at this ⊢
  exact this
theorem parts_len (P X Q Y S : List Int) {n k : Nat} (hX : X.length = n) (hY : Y.length = n) (hk : k ≤ n) : (P ++ (Y.take k ++ X.drop k) ++ Q ++ (X.take k ++ Y.drop k) ++ S).length = (P ++ X ++ Q ++ Y ++ S).length := by
  simp only [List.length_append, List.length_take, List.length_drop]
  omega
set_option maxHeartbeats 1000000 in
theorem swapRange_any (g a b n len : Nat) (P X Q Y S : List Int) (fv : Value) (w : World) (h : ArrAt g (P ++ X ++ Q ++ Y ++ S) w) (hP : P.length = a) (hX : X.length = n) (hY : Y.length = n) (hb : a + n + Q.length = b) (hl : (P ++ X ++ Q ++ Y ++ S).length = len) (hm : len ≤ 140737488355328) :
    Calls Try.prog 61 #[.slice (some ⟨g, 0, none⟩) len len, .int .i64 (a : Int), .int .i64 (b : Int), .int .i64 (n : Int), fv] w (RetArr g (P ++ Y ++ Q ++ X ++ S) w) := by
  have hbl : b + n ≤ len := by
    rw [← hl]
    simp only [List.length_append]
    omega
  have H := Lib.hid h
  have HP := Lib.hid hP
  have HX := Lib.hid hX
  have HY := Lib.hid hY
  have HB := Lib.hid hb
  have HL := Lib.hid hl
  have hab : a + n ≤ b := by omega
  clear h hP hX hY hb hl
  go_enter Try.func61, Try.ntmps61
  go_wp2_with fail
  go_loopw [10] (fun s wr => ∃ k : Nat, s = .int .i64 (k : Int) ∧ k ≤ n ∧ ArrAt g (P ++ (Y.take k ++ X.drop k) ++ Q ++ (X.take k ++ Y.drop k) ++ S) wr ∧ Outside (· = g) w wr) (fun s _ => n - (intOf s).toNat)
  case atStart => exact ⟨0, rfl, Nat.zero_le _, by simpa using H.out, Outside.refl _ _⟩
  case round =>
    obtain ⟨k, rfl, hk, harr, hout⟩ := hrel
    have hlen := parts_len P X Q Y S HX.out HY.out hk
    rw [HL.out] at hlen
    have HO := Lib.hid hout
    by_cases hlt : k < n
    · have hki : (k : Int) < (n : Int) := by omega
      have HST := Lib.hid (range_step P X Q Y S HX.out HY.out hlt HP.out HB.out)
      obtain ⟨ds, hds⟩ : ∃ ds, P ++ (Y.take k ++ X.drop k) ++ Q ++ (X.take k ++ Y.drop k) ++ S = ds := ⟨_, rfl⟩
      rw [hds] at harr hlen HST
      have HA := Lib.hid harr
      have hca := harr.cell (i := a + k) (by omega)
      have hcb := harr.cell (i := b + k) (by omega)
      have hfa := harr.frozen (a + k)
      have hfb := harr.frozen (b + k)
      obtain ⟨x, hx⟩ : ∃ x, ds.getD (a + k) 0 = x := ⟨_, rfl⟩
      obtain ⟨y, hy⟩ : ∃ y, ds.getD (b + k) 0 = y := ⟨_, rfl⟩
      rw [hx] at hca
      rw [hy] at hcb
      have HXX := Lib.hid hx
      have HYY := Lib.hid hy
      have ea : IntKind.i64.wrap ((a : Int) + (k : Int)) = (a : Int) + (k : Int) := IntWalk.i64_in _ (by omega)
      have eb : IntKind.i64.wrap ((b : Int) + (k : Int)) = (b : Int) + (k : Int) := IntWalk.i64_in _ (by omega)
      have la : (a : Int) + (k : Int) < (len : Int) := by omega
      have lb : (b : Int) + (k : Int) < (len : Int) := by omega
      have ga : (0 : Int) ≤ (a : Int) + (k : Int) := by omega
      have gb : (0 : Int) ≤ (b : Int) + (k : Int) := by omega
      have ta : ((a : Int) + (k : Int)).toNat = a + k := by omega
      have tb : ((b : Int) + (k : Int)).toNat = b + k := by omega
      have hne : (⟨g, a + k, none⟩ : Addr) ≠ ⟨g, b + k, none⟩ := by intro e; injection e; omega
      have da : wr.drew.cell? ⟨g, a + k, none⟩ = _ := hca
      have db : wr.drew.cell? ⟨g, b + k, none⟩ = _ := hcb
      have fa : wr.drew.frozen? ⟨g, a + k, none⟩ = false := hfa
      have fb : wr.drew.frozen? ⟨g, b + k, none⟩ = false := hfb
      clear hds harr hx hy hout
      go_wp2_with fail
      go_region_law (fail)
      all_goals go_wp2
      all_goals go_roundw
      all_goals first
        | (refine ⟨k + 1, by go_num, by omega, ?_, out_swap HO.out _ _ _ _⟩
           rw [← HST.out]
           exact HA.out.drew.swap HXX.out HYY.out)
        | (simp [intOf]; omega)
    · obtain rfl : k = n := by omega
      have hki : ¬ ((k : Int) < (k : Int)) := by omega
      have HA := Lib.hid harr
      clear harr hout
      go_wp2_with fail
      go_end0
      refine ⟨rfl, ?_, HO.out⟩
      have := HA.out
      rw [List.take_of_length_le (by rw [HY.out]; omega), List.take_of_length_le (by rw [HX.out]; omega), List.drop_of_length_le (by rw [HX.out]; omega), List.drop_of_length_le (by rw [HY.out]; omega), List.append_nil, List.append_nil] at this
      simpa only [List.append_assoc] using this
end Go.Proofs.Ytbnbeailbhnbdaa
/-
  slices' stable sort at numbers: rotate.
-/
set_option linter.unusedVariables false
set_option linter.unusedSimpArgs false
namespace Go.Proofs.Ytbnbeailbhnbdaa
open Go.RowKit

theorem swapRange_at (g a b n len : Nat) (ai bi ni : Int) (P X Q Y S ds : List Int) (fv : Value) (w : World) (ha : ai = (a : Int)) (hbi : bi = (b : Int)) (hn : ni = (n : Int)) (hds : P ++ X ++ Q ++ Y ++ S = ds) (h : ArrAt g ds w) (hP : P.length = a) (hX : X.length = n) (hY : Y.length = n) (hb : a + n + Q.length = b) (hl : ds.length = len) (hm : len ≤ 140737488355328) :
    Calls Try.prog 61 #[.slice (some ⟨g, 0, none⟩) len len, .int .i64 ai, .int .i64 bi, .int .i64 ni, fv] w (RetArr g (P ++ Y ++ Q ++ X ++ S) w) := by
  subst ha hbi hn hds
  exact swapRange_any g a b n len P X Q Y S fv w h hP hX hY hb hl hm
/-- Between two rounds of rotate. -/
def RotLoop (g m len : Nat) (F : List Int) (w : World) (s10 s11 : Value) (wr : World) : Prop :=
  ∃ (P X Y S ds : List Int) (i j : Nat), s10 = .int .i64 (i : Int) ∧ s11 = .int .i64 (j : Int) ∧ X.length = i ∧ Y.length = j ∧ 0 < i ∧ 0 < j ∧ P.length + i = m ∧ P ++ (X ++ (Y ++ S)) = ds ∧ P ++ (Y ++ (X ++ S)) = F ∧ ds.length = len ∧ ArrAt g ds wr ∧ Outside (· = g) w wr
set_option maxHeartbeats 1000000 in
theorem rotate_any (g a m b len : Nat) (P X Y S : List Int) (fv : Value) (w : World) (h : ArrAt g (P ++ (X ++ (Y ++ S))) w) (hP : P.length = a) (hX : a + X.length = m) (hY : m + Y.length = b) (hX0 : 0 < X.length) (hY0 : 0 < Y.length) (hl : (P ++ (X ++ (Y ++ S))).length = len) (hm : len ≤ 140737488355328) :
    Calls Try.prog 60 #[.slice (some ⟨g, 0, none⟩) len len, .int .i64 (a : Int), .int .i64 (m : Int), .int .i64 (b : Int), fv] w (RetArr g (P ++ (Y ++ (X ++ S))) w) := by
  have hbl : b ≤ len := by
    rw [← hl]
    simp only [List.length_append]
    omega
  obtain ⟨F, hF⟩ : ∃ F, P ++ (Y ++ (X ++ S)) = F := ⟨_, rfl⟩
  rw [hF]
  obtain ⟨i0, hi0⟩ : ∃ i0, X.length = i0 := ⟨_, rfl⟩
  obtain ⟨j0, hj0⟩ : ∃ j0, Y.length = j0 := ⟨_, rfl⟩
  have hST : RotLoop g m len F w (.int .i64 ((m : Int) - (a : Int))) (.int .i64 ((b : Int) - (m : Int))) w := by
    refine ⟨P, X, Y, S, _, i0, j0, ?_, ?_, hi0, hj0, by omega, by omega, by omega, rfl, hF, hl, h, Outside.refl _ _⟩
    · have : (m : Int) - (a : Int) = (i0 : Int) := by omega
      rw [this]
    · have : (b : Int) - (m : Int) = (j0 : Int) := by omega
      rw [this]
  have HS := Lib.hid hST
  have hma : a ≤ m := by omega
  have hmb : m ≤ b := by omega
  clear h hP hX hY hX0 hY0 hl hF hi0 hj0 hST
  go_enter Try.func60, Try.ntmps60
  go_wp2_with fail
  go_loopw [10, 11] (fun s10 s11 wr => RotLoop g m len F w s10 s11 wr) (fun s10 s11 _ => (intOf s10).toNat + (intOf s11).toNat)
  case atStart => exact HS.out
  case round =>
    obtain ⟨P, X, Y, S, ds, i, j, rfl, rfl, hX, hY, hi, hj, hP, hds, hF, hdl, harr, hout⟩ := hrel
    have HO := Lib.hid hout
    have HA := Lib.hid harr
    have HD := Lib.hid hds
    have HF := Lib.hid hF
    have HX := Lib.hid hX
    have HY := Lib.hid hY
    have HDL := Lib.hid hdl
    have him : i ≤ m := by omega
    have hjb : i + j ≤ len := by
      rw [← hdl, ← hds]
      simp only [List.length_append]
      omega
    have hmj : m + j ≤ len := by
      rw [← hdl, ← hds]
      simp only [List.length_append]
      omega
    clear hout harr hds hF hX hY hdl
    by_cases hij : i = j
    · subst hij
      have e1 : ((i : Int) != (i : Int)) = false := by simp
      go_wp2_with (first
        | (go_at_call 61; refine (swapRange_at g (m - i) m i len _ _ _ P X [] Y S ds fv _ (by omega) rfl rfl (by rw [← HD.out]; simp) HA.out (by omega) HX.out HY.out (by simp; omega) HDL.out hm).mono ?_; rintro e w1 ⟨rfl, harr1, hout1⟩)
        | fail)
      go_end0
      refine ⟨rfl, ?_, HO.out.trans hout1 (fun b _ hb => hb)⟩
      rw [← HF.out]
      simpa using harr1
    · have e1 : ((i : Int) != (j : Int)) = true := by simp; omega
      by_cases hlt : j < i
      · have hlti : (j : Int) < (i : Int) := by omega
        have hXs : X.take j ++ X.drop j = X := List.take_append_drop j X
        have hU : (X.take j).length = j := by rw [List.length_take, HX.out]; omega
        have hV : (X.drop j).length = i - j := by rw [List.length_drop, HX.out]
        obtain ⟨U, hUe⟩ : ∃ U, X.take j = U := ⟨_, rfl⟩
        obtain ⟨V, hVe⟩ : ∃ V, X.drop j = V := ⟨_, rfl⟩
        rw [hUe, hVe] at hXs
        rw [hUe] at hU
        rw [hVe] at hV
        have HXs := Lib.hid hXs
        have HU := Lib.hid hU
        have HV := Lib.hid hV
        clear hXs hU hV hUe hVe hij
        go_wp2_with (first
          | (go_at_call 61; refine (swapRange_at g (m - i) m j len _ _ _ P U V Y S ds fv _ (by omega) rfl rfl (by rw [← HD.out, ← HXs.out]; simp only [List.append_assoc]) HA.out (by omega) HU.out HY.out (by rw [HV.out]; omega) HDL.out hm).mono ?_; rintro e w1 ⟨rfl, harr1, hout1⟩; have HA1 := Lib.hid harr1; have HO1 := Lib.hid hout1; clear harr1 hout1)
          | fail)
        go_roundw
        case rel =>
          refine ⟨P ++ Y, V, U, S, P ++ Y ++ V ++ U ++ S, i - j, j, ?_, rfl, HV.out, HU.out, by omega, hj, by rw [List.length_append, HY.out]; omega, by simp only [List.append_assoc], ?_, ?_, HA1.out, HO.out.trans HO1.out (fun b _ hb => hb)⟩
          · have : (i : Int) - (j : Int) = ((i - j : Nat) : Int) := by omega
            rw [this]
          · rw [← HF.out, ← HXs.out]
            simp only [List.append_assoc]
          · have h1 := HDL.out
            rw [← HD.out] at h1
            have h2 := HXs.out
            have h3 : X.length = U.length + V.length := by rw [← h2, List.length_append]
            simp only [List.length_append] at h1 ⊢
            omega
        case measure => simp [intOf]; omega
      · have hlti : ¬ (j : Int) < (i : Int) := by omega
        have hYs : Y.take (j - i) ++ Y.drop (j - i) = Y := List.take_append_drop _ Y
        have hU : (Y.take (j - i)).length = j - i := by rw [List.length_take, HY.out]; omega
        have hV : (Y.drop (j - i)).length = i := by rw [List.length_drop, HY.out]; omega
        obtain ⟨U, hUe⟩ : ∃ U, Y.take (j - i) = U := ⟨_, rfl⟩
        obtain ⟨V, hVe⟩ : ∃ V, Y.drop (j - i) = V := ⟨_, rfl⟩
        rw [hUe, hVe] at hYs
        rw [hUe] at hU
        rw [hVe] at hV
        have HYs := Lib.hid hYs
        have HU := Lib.hid hU
        have HV := Lib.hid hV
        have hjj : i < j := by omega
        clear hYs hU hV hUe hVe hij
        go_wp2_with (first
          | (go_at_call 61; refine (swapRange_at g (m - i) (m + j - i) i len _ _ _ P X U V S ds fv _ (by omega) (by omega) rfl (by rw [← HD.out, ← HYs.out]; simp only [List.append_assoc]) HA.out (by omega) HX.out HV.out (by rw [HU.out]; omega) HDL.out hm).mono ?_; rintro e w1 ⟨rfl, harr1, hout1⟩; have HA1 := Lib.hid harr1; have HO1 := Lib.hid hout1; clear harr1 hout1)
          | fail)
        go_roundw
        case rel =>
          refine ⟨P, V, U, X ++ S, P ++ V ++ U ++ X ++ S, i, j - i, rfl, ?_, HV.out, HU.out, hi, by omega, hP, by simp only [List.append_assoc], ?_, ?_, HA1.out, HO.out.trans HO1.out (fun b _ hb => hb)⟩
          · have : (j : Int) - (i : Int) = ((j - i : Nat) : Int) := by omega
            rw [this]
          · rw [← HF.out, ← HYs.out]
            simp only [List.append_assoc]
          · have h1 := HDL.out
            rw [← HD.out] at h1
            have h2 := HYs.out
            have h3 : Y.length = U.length + V.length := by rw [← h2, List.length_append]
            simp only [List.length_append] at h1 ⊢
            omega
        case measure => simp [intOf]; omega
end Go.Proofs.Ytbnbeailbhnbdaa
/-
  slices' stable sort at numbers: what is asked of the comparison; insertion sort.
-/
set_option linter.unusedVariables false
set_option linter.unusedSimpArgs false
namespace Go.Proofs.Ytbnbeailbhnbdaa
open Go.RowKit

/-- The comparison has told whether x stands ahead of y. -/
def RetCmp (lt : Int → Int → Bool) (x y : Int) (W : World) (e : Ending) (w' : World) : Prop := ∃ r : Int, e = .returned (.int .i64 r) ∧ decide (r < 0) = lt x y ∧ Below W.heap.size W w'
def cmpV (p1 p2 : Nat) : Value := .func (.func 53) #[] #[.pointer (some ⟨p1, 0, none⟩), .pointer (some ⟨p2, 0, none⟩)]
/-- The comparison serves in all worlds of G, for numbers below N; G outlasts what is done to block g. -/
structure CmpOK (G : World → Prop) (g : Nat) (N : Int) (p1 p2 : Nat) (lt : Int → Int → Bool) : Prop where
  keep : ∀ W W', G W → Outside (· = g) W W' → G W'
  call : ∀ W x y, G W → 0 ≤ y → y < x → x < N → Calls Try.prog 53 #[.int .i64 x, .int .i64 y, .pointer (some ⟨p1, 0, none⟩), .pointer (some ⟨p2, 0, none⟩)] W (RetCmp lt x y W)
def RetPerm (g : Nat) (lt : Int → Int → Bool) (P T S : List Int) (w : World) (e : Ending) (w' : World) : Prop := ∃ M, M.Perm T ∧ Srt lt M ∧ e = .returned (.tuple #[]) ∧ ArrAt g (P ++ (M ++ S)) w' ∧ Outside (· = g) w w'
def InsLoop (g a : Nat) (lt : Int → Int → Bool) (P T S : List Int) (w : World) (s8 : Value) (wr : World) : Prop :=
  ∃ (k : Nat) (M : List Int), s8 = .int .i64 ((a + k : Nat) : Int) ∧ 1 ≤ k ∧ (k ≤ T.length ∨ k = 1) ∧ M.Perm (T.take k) ∧ Srt lt M ∧ ArrAt g (P ++ (M ++ (T.drop k ++ S))) wr ∧ Outside (· = g) w wr
def InsIn (g a : Nat) (lt : Int → Int → Bool) (P M Z : List Int) (x : Int) (w : World) (s9 : Value) (wr : World) : Prop :=
  ∃ (M1 M2 : List Int) (j : Nat), s9 = .int .i64 (j : Int) ∧ M1 ++ M2 = M ∧ a + M1.length = j ∧ (∀ z ∈ M2, lt x z = true) ∧ ArrAt g (P ++ (M1 ++ (x :: (M2 ++ Z)))) wr ∧ Outside (· = g) w wr
theorem ins_srt {lt : Int → Int → Bool} (ho : LO lt) {M1 M2 : List Int} {x : Int} (hs : Srt lt (M1 ++ M2)) (h2 : ∀ z ∈ M2, lt x z = true) (h1 : ∀ z ∈ M1, lt z x = true) : Srt lt (M1 ++ x :: M2) := by
  have hp := List.pairwise_append.1 hs
  refine List.pairwise_append.2 ⟨hp.1, List.pairwise_cons.2 ⟨h2, hp.2.1⟩, fun u hu v hv => ?_⟩
  rcases List.mem_cons.1 hv with rfl | hv
  · exact h1 u hu
  · exact hp.2.2 u hu v hv
theorem ins_last {lt : Int → Int → Bool} (ho : LO lt) {M1 M2 : List Int} {x z : Int} (hs : Srt lt (M1 ++ [z] ++ M2)) (hz : lt z x = true) : ∀ u ∈ M1 ++ [z], lt u x = true := by
  have hp := (List.pairwise_append.1 (List.pairwise_append.1 hs).1).2.2
  intro u hu
  rcases List.mem_append.1 hu with hu | hu
  · exact ho.tr _ _ _ (hp u hu z (by simp)) hz
  · simp at hu
    subst hu
    exact hz
set_option maxHeartbeats 4000000 in
theorem insertion_any {G : World → Prop} {g : Nat} {N : Int} {p1 p2 : Nat} {lt : Int → Int → Bool} (hC : CmpOK G g N p1 p2 lt) (ho : LO lt) (a b len : Nat) (P T S : List Int) (w : World) (hG : G w) (h : ArrAt g (P ++ (T ++ S)) w) (hP : P.length = a) (hb : a + T.length = b) (hT : T.Pairwise (· < ·)) (hr : ∀ x ∈ T, 0 ≤ x ∧ x < N) (hl : (P ++ (T ++ S)).length = len) (hm : len ≤ 140737488355328) :
    Calls Try.prog 58 #[.slice (some ⟨g, 0, none⟩) len len, .int .i64 (a : Int), .int .i64 (b : Int), cmpV p1 p2] w (RetPerm g lt P T S w) := by
  have hbl : b ≤ len := by
    rw [← hl]
    simp only [List.length_append]
    omega
  have HS : Hid (InsLoop g a lt P T S w (.int .i64 ((a : Int) + 1)) w) := Lib.hid ⟨1, T.take 1, by go_num, Nat.le_refl _, .inr rfl, List.Perm.refl _, by
    rcases T with _ | ⟨t, T⟩
    · exact List.Pairwise.nil
    · simp, by
    have := List.take_append_drop 1 T
    rw [← List.append_assoc (T.take 1), this]
    exact h, Outside.refl _ _⟩
  have HP := Lib.hid hP
  have HB := Lib.hid hb
  have HT := Lib.hid hT
  have HR := Lib.hid hr
  have HL := Lib.hid hl
  have HG := Lib.hid hG
  have HC := Lib.hid hC
  have hab : a ≤ b := by omega
  clear h hP hb hT hr hl hG hC
  unfold cmpV
  go_enter Try.func58, Try.ntmps58
  go_wp2_with fail
  go_loopw [8] (fun s8 wr => InsLoop g a lt P T S w s8 wr) (fun s8 _ => b - (intOf s8).toNat)
  case atStart => exact HS.out
  case round =>
    obtain ⟨k, M, rfl, hk1, hkT, hperm, hsrt, harr, hout⟩ := hrel
    have HPE := Lib.hid hperm
    have HSR := Lib.hid hsrt
    have HA := Lib.hid harr
    have HO := Lib.hid hout
    obtain ⟨i, hi⟩ : ∃ i, a + k = i := ⟨_, rfl⟩
    rw [hi]
    have HI := Lib.hid hi
    by_cases hlt : k < T.length
    · have hib : i < b := by have := HB.out; omega
      have hii : (i : Int) < (b : Int) := by omega
      have htk : T.drop k = T[k] :: T.drop (k + 1) := by rw [List.getElem_cons_drop]
      obtain ⟨x, hx⟩ : ∃ x, T[k] = x := ⟨_, rfl⟩
      rw [hx] at htk
      have hxN := HR.out x (by rw [← hx]; exact List.getElem_mem hlt)
      have hlx : ∀ z ∈ M, 0 ≤ z ∧ z < x := by
        intro z hz
        have hz' := hperm.mem_iff.1 hz
        refine ⟨(HR.out z (List.mem_of_mem_take hz')).1, ?_⟩
        obtain ⟨u, hu, rfl⟩ := List.getElem_of_mem hz'
        rw [List.getElem_take, ← hx]
        simp at hu
        exact List.pairwise_iff_getElem.1 HT.out u k (by omega) hlt (by omega)
      have hML : M.length = k := by rw [hperm.length_eq, List.length_take]; omega
      have HTK : Hid (T.take (k + 1) = T.take k ++ [x]) := Lib.hid (by rw [List.take_succ_eq_append_getElem hlt, hx])
      obtain ⟨Z, hZ⟩ : ∃ Z, T.drop (k + 1) ++ S = Z := ⟨_, rfl⟩
      have HIN : Hid (InsIn g a lt P M Z x w (.int .i64 (i : Int)) wr) := Lib.hid ⟨M, [], i, rfl, by simp, by omega, by simp, by
        rw [htk] at harr
        rw [← hZ]
        simpa using harr, hout⟩
      have HZ := Lib.hid hZ
      have HLX := Lib.hid hlx
      have HML := Lib.hid hML
      have HLEN : Hid (P.length + (M.length + (Z.length + 1)) = len) := Lib.hid (by
        have h1 := HL.out
        have h2 : Z.length = T.length - (k + 1) + S.length := by rw [← hZ, List.length_append, List.length_drop]
        simp only [List.length_append] at h1
        omega)
      clear hperm hsrt harr hout hi htk hx hlx hML hZ
      go_wp2_with fail
      obtain ⟨wo, hwo⟩ : ∃ wo : World, wo = wr := ⟨_, rfl⟩
      rw [← hwo] at HA HO HIN ⊢
      clear hwo
      go_loopw [9] (fun s9 wr => InsIn g a lt P M Z x w s9 wr) (fun s9 _ => (intOf s9).toNat)
      case atStart => exact HIN.out
      case round =>
        obtain ⟨M1, M2, j, rfl, hM, hj, h2, harr, hout⟩ := hrel
        have HM := Lib.hid hM
        have H2 := Lib.hid h2
        have HA2 := Lib.hid harr
        have HO2 := Lib.hid hout
        have hj0 : (0 : Int) ≤ (j : Int) := by omega
        have hjl : j < len := by
          have h1 := HLEN.out
          have h3 := HP.out
          rw [← hM, List.length_append] at h1
          omega
        have hji : (j : Int) < (len : Int) := by omega
        rcases List.eq_nil_or_concat M1 with hM1 | ⟨M1', z, hM1⟩
        · subst hM1
          have hja : j = a := by simpa using hj.symm
          have dj : decide (a < j) = false := decide_eq_false (by omega)
          have dji : ¬ (a : Int) < (j : Int) := by omega
          clear hM h2 harr hout hj
          go_wp2_with fail
          go_quiet (fail)
          go_wp2_with fail
          go_roundw
          case rel =>
            refine ⟨k + 1, x :: M2, ?_, by omega, .inl hlt, ?_, ins_srt (M1 := []) ho (by rw [HM.out]; exact HSR.out) H2.out (by simp), ?_, HO2.out.trans (Outside.of_below (below_drewN _ _)) (fun b _ hb => hb)⟩
            · rw [show a + (k + 1) = i + 1 by have := HI.out; omega]; go_num
            · rw [HTK.out]
              have hm := HM.out
              simp only [List.nil_append] at hm
              rw [hm]
              exact (HPE.out.cons x).trans (List.perm_append_comm (l₁ := [x]))
            · have : ArrAt g (P ++ ([] ++ x :: (M2 ++ Z))) (wr.drewN nq) := HA2.out
              rw [← HZ.out] at this
              simpa using this
          case measure => simp [intOf]; omega
        · subst hM1
          rw [List.concat_eq_append] at hM harr hj HM HA2
          have hja : a < j := by rw [← hj]; simp
          have dj : decide (a < j) = true := decide_eq_true hja
          have dji : (a : Int) < (j : Int) := by omega
          have hzM : z ∈ M := by rw [← hM]; simp
          have hzx := HLX.out z hzM
          have hc1 : wr.cell? ⟨g, j, none⟩ = some (.int .i64 x) := by
            have := harr.cell (i := j) (by simp only [List.length_append, List.length_cons]; have := HP.out; simp at hj; omega)
            rw [this]
            have hpj : (P ++ (M1' ++ [z])).length = j := by simp only [List.length_append]; have := HP.out; simp at hj ⊢; omega
            rw [← List.append_assoc P, ← hpj, getD_mid]
          have hc2 : wr.cell? ⟨g, j - 1, none⟩ = some (.int .i64 z) := by
            have := harr.cell (i := j - 1) (by simp only [List.length_append, List.length_cons]; have := HP.out; simp at hj; omega)
            rw [this]
            have hpj : (P ++ M1').length = j - 1 := by simp only [List.length_append]; have := HP.out; simp at hj ⊢; omega
            rw [show P ++ (M1' ++ [z] ++ x :: (M2 ++ Z)) = (P ++ M1') ++ z :: (x :: (M2 ++ Z)) by simp, ← hpj, getD_mid]
          have e1 : IntKind.i64.wrap ((j : Int) - 1) = (j : Int) - 1 := IntWalk.i64_in _ (by omega)
          have e2 : (0 : Int) ≤ (j : Int) - 1 := by omega
          have e3 : (j : Int) - 1 < (len : Int) := by omega
          have e4 : ((j : Int) - 1).toNat = j - 1 := by omega
          have e5 : (1 : Int) ≤ (j : Int) := by omega
          have e6 : (j : Int) < (len : Int) + 1 := by omega
          have HZX := Lib.hid hzx
          have HJ := Lib.hid hj
          have d1 : wr.drew.cell? ⟨g, j, none⟩ = some (.int .i64 x) := hc1
          have d2 : wr.drew.cell? ⟨g, j - 1, none⟩ = some (.int .i64 z) := hc2
          have HGR : Hid (G wr.drew) := Lib.hid (HC.out.keep _ _ HG.out hout.drew)
          clear hM h2 harr hout hj hzM hzx
          obtain ⟨lb, hlb⟩ : ∃ lb, lt x z = lb := ⟨_, rfl⟩
          have HLB := Lib.hid hlb
          clear hlb
          go_wp2_with fail
          go_region_held3 (fun W' => W'.cell? ⟨g, j, none⟩ = some (.int .i64 x) ∧ W'.cell? ⟨g, j - 1, none⟩ = some (.int .i64 z))
            (first
              | exact ⟨d1, d2⟩
              | exact ⟨k1, k2⟩
              | fail)
            (first
              | (go_simp; go_at_call 53; refine (HC.out.call wr.drew x z HGR.out HZX.out.1 HZX.out.2 hxN.2).mono ?_; rintro e w5 ⟨r, rfl, hr5, hb5⟩; rw [HLB.out] at hr5; have k1 := (hb5.cell (p := ⟨g, j, none⟩) (World.block_lt_of_cell? _ _ d1)).trans d1; have k2 := (hb5.cell (p := ⟨g, j - 1, none⟩) (World.block_lt_of_cell? _ _ d2)).trans d2; have HB5 := Lib.hid hb5; clear hb5)
              | fail)
          have HA5 : Hid (ArrAt g (P ++ (M1' ++ [z] ++ (x :: (M2 ++ Z)))) w5) := Lib.hid (HA2.out.drew.below HB5.out)
          have HO5 : Hid (Outside (· = g) w w5) := Lib.hid (HO2.out.drew.trans (Outside.of_below HB5.out) (fun b _ hb => hb))
          cases lb with
          | true =>
            have k3 := HA5.out.frozen j
            have k4 := HA5.out.frozen (j - 1)
            have q1 : w5.drew.cell? ⟨g, j, none⟩ = some (.int .i64 x) := k1
            have q2 : w5.drew.cell? ⟨g, j - 1, none⟩ = some (.int .i64 z) := k2
            have q3 : w5.drew.frozen? ⟨g, j, none⟩ = false := k3
            have q4 : w5.drew.frozen? ⟨g, j - 1, none⟩ = false := k4
            have hne : (⟨g, j, none⟩ : Addr) ≠ ⟨g, j - 1, none⟩ := by intro e; injection e; omega
            clear hc1 hc2 d1 d2
            go_wp2_with fail
            go_region_law (fail)
            all_goals go_wp2
            all_goals
              go_roundw
              case rel =>
                 refine ⟨M1', z :: M2, j - 1, ?_, by rw [← HM.out]; simp, by have := HJ.out; simp at this; omega, ?_, ?_, out_swap HO5.out _ _ _ _⟩
                 · rw [show ((j - 1 : Nat) : Int) = (j : Int) - 1 by omega]
                 · intro u hu
                   rcases List.mem_cons.1 hu with rfl | hu
                   · exact HLB.out
                   · exact H2.out u hu
                 · have hsw := HA5.out.drew.swap (i := j) (j := j - 1) (x := x) (y := z) ?_ ?_
                   · have hpj : (P ++ M1').length = j - 1 := by simp only [List.length_append]; have := HP.out; have := HJ.out; simp at this; omega
                     have hs2 := swap_next (P ++ M1') (M2 ++ Z) z x
                     rw [hpj, show j - 1 + 1 = j by omega, swapL_comm (by omega)] at hs2
                     rw [show P ++ (M1' ++ [z] ++ x :: (M2 ++ Z)) = (P ++ M1') ++ z :: x :: (M2 ++ Z) by simp, hs2, show P ++ M1' ++ x :: z :: (M2 ++ Z) = P ++ (M1' ++ x :: (z :: M2 ++ Z)) by simp] at hsw
                     exact hsw
                   · have h1 := HA5.out.cell (i := j) (by simp only [List.length_append, List.length_cons]; have := HP.out; have := HJ.out; simp at this; omega)
                     rw [k1] at h1
                     injection h1 with h1
                     injection h1 with _ h1
                     exact h1.symm
                   · have h1 := HA5.out.cell (i := j - 1) (by simp only [List.length_append, List.length_cons]; have := HP.out; have := HJ.out; simp at this; omega)
                     rw [k2] at h1
                     injection h1 with h1
                     injection h1 with _ h1
                     exact h1.symm
              case measure => simp [intOf]; omega
          | false =>
            have hzx2 : lt z x = true := ho.of_not (by have := HZX.out; omega) HLB.out
            have HZX2 := Lib.hid hzx2
            clear hc1 hc2 d1 d2 hzx2
            go_wp2_with fail
            go_roundw
            case rel =>
              refine ⟨k + 1, M1' ++ [z] ++ x :: M2, ?_, by omega, .inl hlt, ?_, ins_srt ho (by rw [HM.out]; exact HSR.out) H2.out (ins_last ho (by rw [HM.out]; exact HSR.out) HZX2.out), ?_, HO5.out⟩
              · rw [show a + (k + 1) = i + 1 by have := HI.out; omega]; go_num
              · rw [HTK.out]
                refine List.perm_middle.trans ?_
                rw [HM.out]
                exact (HPE.out.cons x).trans (List.perm_append_comm (l₁ := [x]))
              · have := HA5.out
                rw [← HZ.out] at this
                simpa using this
            case measure => simp [intOf]; omega
    · have hib : ¬ (i : Int) < (b : Int) := by have := HB.out; omega
      go_wp2_with fail
      go_end0
      have hp := HPE.out
      have ha := HA.out
      rw [List.take_of_length_le (by omega)] at hp
      rw [List.drop_of_length_le (by omega), List.nil_append] at ha
      exact ⟨M, hp, HSR.out, rfl, ha, HO.out⟩
end Go.Proofs.Ytbnbeailbhnbdaa
