/-
  slices' stable sort at numbers: rotate.
-/
import Derived.Test.YtbnbeailbhnbdaaSrt1
set_option linter.unusedVariables false
set_option linter.unusedSimpArgs false
namespace Go.Proofs.Ytbnbeailbhnbdaa
open Go.RowKit

theorem swapRange_at (g a b n len : Nat) (ai bi ni : Int) (P X Q Y S ds : List Int) (fv : Value) (w : World) (ha : ai = (a : Int)) (hbi : bi = (b : Int)) (hn : ni = (n : Int)) (hds : P ++ X ++ Q ++ Y ++ S = ds) (h : ArrAt g ds w) (hP : P.length = a) (hX : X.length = n) (hY : Y.length = n) (hb : a + n + Q.length = b) (hl : ds.length = len) (hm : len ≤ 140737488355328) :
    Calls Try.prog 61 #[.slice (some ⟨g, 0, none⟩) len len, .int .i64 ai, .int .i64 bi, .int .i64 ni, fv] w (RetArr g (P ++ Y ++ Q ++ X ++ S) w) := by
  subst ha hbi hn hds
  exact swapRange_any g a b n len P X Q Y S fv w h hP hX hY hb hl hm
/-- Between two rounds of rotate. -/
def RotLoop (g m len : Nat) (F : List Int) (w : World) (s10 s11 : Value) (wr : World) : Prop :=
  ∃ (P X Y S ds : List Int) (i j : Nat), s10 = .int .i64 (i : Int) ∧ s11 = .int .i64 (j : Int) ∧ X.length = i ∧ Y.length = j ∧ 0 < i ∧ 0 < j ∧ P.length + i = m ∧ P ++ (X ++ (Y ++ S)) = ds ∧ P ++ (Y ++ (X ++ S)) = F ∧ ds.length = len ∧ ArrAt g ds wr ∧ Outside (· = g) w wr
set_option maxHeartbeats 1000000 in
theorem rotate_any (g a m b len : Nat) (P X Y S : List Int) (fv : Value) (w : World) (h : ArrAt g (P ++ (X ++ (Y ++ S))) w) (hP : P.length = a) (hX : a + X.length = m) (hY : m + Y.length = b) (hX0 : 0 < X.length) (hY0 : 0 < Y.length) (hl : (P ++ (X ++ (Y ++ S))).length = len) (hm : len ≤ 140737488355328) :
    Calls Try.prog 60 #[.slice (some ⟨g, 0, none⟩) len len, .int .i64 (a : Int), .int .i64 (m : Int), .int .i64 (b : Int), fv] w (RetArr g (P ++ (Y ++ (X ++ S))) w) := by
  have hbl : b ≤ len := by
    rw [← hl]
    simp only [List.length_append]
    omega
  obtain ⟨F, hF⟩ : ∃ F, P ++ (Y ++ (X ++ S)) = F := ⟨_, rfl⟩
  rw [hF]
  obtain ⟨i0, hi0⟩ : ∃ i0, X.length = i0 := ⟨_, rfl⟩
  obtain ⟨j0, hj0⟩ : ∃ j0, Y.length = j0 := ⟨_, rfl⟩
  have hST : RotLoop g m len F w (.int .i64 ((m : Int) - (a : Int))) (.int .i64 ((b : Int) - (m : Int))) w := by
    refine ⟨P, X, Y, S, _, i0, j0, ?_, ?_, hi0, hj0, by omega, by omega, by omega, rfl, hF, hl, h, Outside.refl _ _⟩
    · have : (m : Int) - (a : Int) = (i0 : Int) := by omega
      rw [this]
    · have : (b : Int) - (m : Int) = (j0 : Int) := by omega
      rw [this]
  have HS := Lib.hid hST
  have hma : a ≤ m := by omega
  have hmb : m ≤ b := by omega
  clear h hP hX hY hX0 hY0 hl hF hi0 hj0 hST
  go_enter Try.func60, Try.ntmps60
  go_wp2_with fail
  go_loopw [10, 11] (fun s10 s11 wr => RotLoop g m len F w s10 s11 wr) (fun s10 s11 _ => (intOf s10).toNat + (intOf s11).toNat)
  case atStart => exact HS.out
  case round =>
    obtain ⟨P, X, Y, S, ds, i, j, rfl, rfl, hX, hY, hi, hj, hP, hds, hF, hdl, harr, hout⟩ := hrel
    have HO := Lib.hid hout
    have HA := Lib.hid harr
    have HD := Lib.hid hds
    have HF := Lib.hid hF
    have HX := Lib.hid hX
    have HY := Lib.hid hY
    have HDL := Lib.hid hdl
    have him : i ≤ m := by omega
    have hjb : i + j ≤ len := by
      rw [← hdl, ← hds]
      simp only [List.length_append]
      omega
    have hmj : m + j ≤ len := by
      rw [← hdl, ← hds]
      simp only [List.length_append]
      omega
    clear hout harr hds hF hX hY hdl
    by_cases hij : i = j
    · subst hij
      have e1 : ((i : Int) != (i : Int)) = false := by simp
      go_wp2_with (first
        | (go_at_call 61; refine (swapRange_at g (m - i) m i len _ _ _ P X [] Y S ds fv _ (by omega) rfl rfl (by rw [← HD.out]; simp) HA.out (by omega) HX.out HY.out (by simp; omega) HDL.out hm).mono ?_; rintro e w1 ⟨rfl, harr1, hout1⟩)
        | fail)
      go_end0
      refine ⟨rfl, ?_, HO.out.trans hout1 (fun b _ hb => hb)⟩
      rw [← HF.out]
      simpa using harr1
    · have e1 : ((i : Int) != (j : Int)) = true := by simp; omega
      by_cases hlt : j < i
      · have hlti : (j : Int) < (i : Int) := by omega
        have hXs : X.take j ++ X.drop j = X := List.take_append_drop j X
        have hU : (X.take j).length = j := by rw [List.length_take, HX.out]; omega
        have hV : (X.drop j).length = i - j := by rw [List.length_drop, HX.out]
        obtain ⟨U, hUe⟩ : ∃ U, X.take j = U := ⟨_, rfl⟩
        obtain ⟨V, hVe⟩ : ∃ V, X.drop j = V := ⟨_, rfl⟩
        rw [hUe, hVe] at hXs
        rw [hUe] at hU
        rw [hVe] at hV
        have HXs := Lib.hid hXs
        have HU := Lib.hid hU
        have HV := Lib.hid hV
        clear hXs hU hV hUe hVe hij
        go_wp2_with (first
          | (go_at_call 61; refine (swapRange_at g (m - i) m j len _ _ _ P U V Y S ds fv _ (by omega) rfl rfl (by rw [← HD.out, ← HXs.out]; simp only [List.append_assoc]) HA.out (by omega) HU.out HY.out (by rw [HV.out]; omega) HDL.out hm).mono ?_; rintro e w1 ⟨rfl, harr1, hout1⟩; have HA1 := Lib.hid harr1; have HO1 := Lib.hid hout1; clear harr1 hout1)
          | fail)
        go_roundw
        case rel =>
          refine ⟨P ++ Y, V, U, S, P ++ Y ++ V ++ U ++ S, i - j, j, ?_, rfl, HV.out, HU.out, by omega, hj, by rw [List.length_append, HY.out]; omega, by simp only [List.append_assoc], ?_, ?_, HA1.out, HO.out.trans HO1.out (fun b _ hb => hb)⟩
          · have : (i : Int) - (j : Int) = ((i - j : Nat) : Int) := by omega
            rw [this]
          · rw [← HF.out, ← HXs.out]
            simp only [List.append_assoc]
          · have h1 := HDL.out
            rw [← HD.out] at h1
            have h2 := HXs.out
            have h3 : X.length = U.length + V.length := by rw [← h2, List.length_append]
            simp only [List.length_append] at h1 ⊢
            omega
        case measure => simp [intOf]; omega
      · have hlti : ¬ (j : Int) < (i : Int) := by omega
        have hYs : Y.take (j - i) ++ Y.drop (j - i) = Y := List.take_append_drop _ Y
        have hU : (Y.take (j - i)).length = j - i := by rw [List.length_take, HY.out]; omega
        have hV : (Y.drop (j - i)).length = i := by rw [List.length_drop, HY.out]; omega
        obtain ⟨U, hUe⟩ : ∃ U, Y.take (j - i) = U := ⟨_, rfl⟩
        obtain ⟨V, hVe⟩ : ∃ V, Y.drop (j - i) = V := ⟨_, rfl⟩
        rw [hUe, hVe] at hYs
        rw [hUe] at hU
        rw [hVe] at hV
        have HYs := Lib.hid hYs
        have HU := Lib.hid hU
        have HV := Lib.hid hV
        have hjj : i < j := by omega
        clear hYs hU hV hUe hVe hij
        go_wp2_with (first
          | (go_at_call 61; refine (swapRange_at g (m - i) (m + j - i) i len _ _ _ P X U V S ds fv _ (by omega) (by omega) rfl (by rw [← HD.out, ← HYs.out]; simp only [List.append_assoc]) HA.out (by omega) HX.out HV.out (by rw [HU.out]; omega) HDL.out hm).mono ?_; rintro e w1 ⟨rfl, harr1, hout1⟩; have HA1 := Lib.hid harr1; have HO1 := Lib.hid hout1; clear harr1 hout1)
          | fail)
        go_roundw
        case rel =>
          refine ⟨P, V, U, X ++ S, P ++ V ++ U ++ X ++ S, i, j - i, rfl, ?_, HV.out, HU.out, hi, by omega, hP, by simp only [List.append_assoc], ?_, ?_, HA1.out, HO.out.trans HO1.out (fun b _ hb => hb)⟩
          · have : (j : Int) - (i : Int) = ((j - i : Nat) : Int) := by omega
            rw [this]
          · rw [← HF.out, ← HYs.out]
            simp only [List.append_assoc]
          · have h1 := HDL.out
            rw [← HD.out] at h1
            have h2 := HYs.out
            have h3 : Y.length = U.length + V.length := by rw [← h2, List.length_append]
            simp only [List.length_append] at h1 ⊢
            omega
        case measure => simp [intOf]; omega
end Go.Proofs.Ytbnbeailbhnbdaa
