/-
  slices' stable sort at numbers: symMerge.
-/
import Derived.Test.YtbnbeailbhnbdaaSrt6
import Derived.Deep.CutRange
import Derived.Deep.DeepCutAuto
set_option linter.unusedVariables false
set_option linter.unusedSimpArgs false
namespace Go.Proofs.Ytbnbeailbhnbdaa
open Go.RowKit

def SymC (g a m s0 r0 p : Nat) (lt : Int → Int → Bool) (L R ds : List Int) (w : World) (s20 s21 : Value) (wr : World) : Prop :=
  ∃ i j : Nat, s20 = .int .i64 (i : Int) ∧ s21 = .int .i64 (j : Int) ∧ s0 ≤ i ∧ i ≤ j ∧ j ≤ r0 ∧ (i = s0 ∨ lt (R.getD (p - (i - 1) - m) 0) (L.getD (i - 1 - a) 0) = false) ∧ (j = r0 ∨ lt (R.getD (p - j - m) 0) (L.getD (j - a) 0) = true) ∧ ArrAt g ds wr ∧ Outside (· = g) w wr
set_option maxRecDepth 16384 in
set_option maxHeartbeats 8000000 in
theorem sym_cut {G : World → Prop} {g : Nat} {N : Int} {p1 p2 : Nat} {lt : Int → Int → Bool} (hC : CmpOK G g N p1 p2 lt) (ho : LO lt) (a m b len : Nat) (P L R S : List Int) (w : World) (hS : SymOf G g N p1 p2 lt len (b - a)) (hG : G w) (h : TwoAt g N lt a m b len P L R S w) (h2 : L.length ≠ 1) (h3 : R.length ≠ 1) :
    Calls Try.prog 59 #[.slice (some ⟨g, 0, none⟩) len len, .int .i64 (a : Int), .int .i64 (m : Int), .int .i64 (b : Int), cmpV p1 p2] w (RetPerm g lt P (L ++ R) S w) := by
  have hbl := h.ble
  have hsm := h.small
  have hLm := h.hL
  have hRb := h.hR
  have hL0 := h.L0
  have hR0 := h.R0
  obtain ⟨mid, hmid⟩ : ∃ mid, (a + b) / 2 = mid := ⟨_, rfl⟩
  obtain ⟨nn, hnn⟩ : ∃ nn, mid + m = nn := ⟨_, rfl⟩
  obtain ⟨p, hp⟩ : ∃ p, p + 1 = nn := ⟨nn - 1, by omega⟩
  have emid : ((a : Int) + (b : Int)) / 2 = (mid : Int) := by omega
  have enn : (mid : Int) + (m : Int) = (nn : Int) := by omega
  have ep : (nn : Int) - 1 = (p : Int) := by omega
  have e0 : ((b : Int) - (m : Int) == 1) = false := by
    simp
    omega
  have e1 : ((m : Int) - (a : Int) == 1) = false := by
    simp
    omega
  obtain ⟨s0, r0, hcase⟩ : ∃ s0 r0 : Nat, (mid < m ∧ s0 + b = nn ∧ mid = r0) ∨ (m ≤ mid ∧ a = s0 ∧ m = r0) := by
    rcases Nat.lt_or_ge mid m with h1 | h1
    · exact ⟨nn - b, mid, .inl ⟨h1, by omega, rfl⟩⟩
    · exact ⟨a, m, .inr ⟨h1, rfl, rfl⟩⟩
  have k1 : a ≤ s0 := by omega
  have k2 : r0 ≤ m := by omega
  have k3 : r0 ≤ mid := by omega
  have k4 : nn ≤ s0 + b := by omega
  have k5 : s0 = a ∨ s0 + b = nn := by omega
  have k6 : r0 = mid ∨ r0 = m := by omega
  have k7 : s0 ≤ r0 := by omega
  have k8 : a < mid := by omega
  have k9 : mid < b := by omega
  have k10 : nn ≤ 2 * len := by omega
  have k11 : p < nn := by omega
  have k12 : m + r0 ≤ nn := by omega
  have HK5 := Lib.hid k5
  have HK6 := Lib.hid k6
  have HP := Lib.hid hp
  have HNN := Lib.hid hnn
  have HT := Lib.hid h
  have HG := Lib.hid hG
  have HC := Lib.hid hC
  have HS := Lib.hid hS
  have HST : Hid (SymC g a m s0 r0 p lt L R (P ++ (L ++ (R ++ S))) w (.int .i64 (s0 : Int)) (.int .i64 (r0 : Int)) w) := Lib.hid ⟨s0, r0, rfl, rfl, Nat.le_refl _, k7, Nat.le_refl _, .inl rfl, .inl rfl, h.arr, Outside.refl _ _⟩
  clear h hG hC hS k5 k6 hmid hp hnn hLm hRb hL0 hR0
  unfold cmpV
  go_enter Try.func59, Try.ntmps59
  go_upto_if 140 with fail
  go_cut [20, 21] from 140 to 146 (fun s20 s21 wc => s20 = .int .i64 (s0 : Int) ∧ s21 = .int .i64 (r0 : Int) ∧ w = wc)
  case first =>
    rcases hcase with ⟨c1, c2, c3⟩ | ⟨c1, c2, c3⟩
    · have d1 : (mid : Int) < (m : Int) := by omega
      have d2 : (nn : Int) - (b : Int) = (s0 : Int) := by omega
      subst c3
      go_wp2_with fail
      go_meet
      case rel => exact ⟨rfl, rfl, rfl⟩
    · have d1 : ¬ (mid : Int) < (m : Int) := by omega
      subst c2 c3
      go_wp2_with fail
      go_meet
      case rel => exact ⟨rfl, rfl, rfl⟩
  case rest =>
    obtain ⟨rfl, rfl, rfl⟩ := hcut
    go_wp2_with fail
    go_loopw [20, 21] (fun s20 s21 wr => SymC g a m s0 r0 p lt L R (P ++ (L ++ (R ++ S))) w s20 s21 wr) (fun s20 s21 _ => (intOf s21).toNat - (intOf s20).toNat)
    case atStart => exact HST.out
    case round =>
      obtain ⟨i, j, rfl, rfl, hmi, hij, hjb, hI, hJ, harr, hout⟩ := hrel
      have HI := Lib.hid hI
      have HJ := Lib.hid hJ
      have HA := Lib.hid harr
      have HO := Lib.hid hout
      clear hI hJ
      by_cases hlt : i < j
      · have hlti : (i : Int) < (j : Int) := by omega
        obtain ⟨h, hh⟩ : ∃ h, (i + j) / 2 = h := ⟨_, rfl⟩
        have eh : ((i : Int) + (j : Int)) / 2 = (h : Int) := by omega
        have hhi : i ≤ h := by omega
        have hhj : h < j := by omega
        obtain ⟨d, hd⟩ : ∃ d, p - h = d := ⟨_, rfl⟩
        have hp := HP.out
        have hdm : m ≤ d := by omega
        have hdb : d < b := by omega
        have ed : (p : Int) - (h : Int) = (d : Int) := by omega
        have ew : IntKind.i64.wrap (d : Int) = (d : Int) := IntWalk.i64_in _ (by omega)
        have hhl : (h : Int) < (len : Int) := by omega
        have hdl : (d : Int) < (len : Int) := by omega
        have hd0 : (0 : Int) ≤ (d : Int) := by omega
        have hh0 : (0 : Int) ≤ (h : Int) := by omega
        obtain ⟨x, hx⟩ : ∃ x, L.getD (h - a) 0 = x := ⟨_, rfl⟩
        obtain ⟨y, hy⟩ : ∃ y, R.getD (d - m) 0 = y := ⟨_, rfl⟩
        have hxm : x ∈ L := by rw [← hx]; exact mem_getD (by have := HT.out.hL; omega)
        have hym : y ∈ R := by rw [← hy]; exact mem_getD (by have := HT.out.hR; omega)
        have d1 : wr.drew.cell? ⟨g, h, none⟩ = some (.int .i64 x) := by
          rw [← hx]
          exact HT.out.getL (by omega) (by omega) harr
        have d2 : wr.drew.cell? ⟨g, d, none⟩ = some (.int .i64 y) := by
          rw [← hy]
          exact HT.out.getR (by omega) (by omega) harr
        have HGR : Hid (G wr.drew) := Lib.hid (HC.out.keep _ _ HG.out hout.drew)
        have hxy := HT.out.LR x hxm y hym
        have hx0 := HT.out.lo x hxm
        have hyN := HT.out.hi y hym
        obtain ⟨lb, hlb⟩ : ∃ lb, lt y x = lb := ⟨_, rfl⟩
        have HLB := Lib.hid hlb
        have HX := Lib.hid hx
        have HY := Lib.hid hy
        have HD := Lib.hid hd
        clear harr hout hlb hh hx hy hxm hym hd hp
        go_wp2_with fail
        go_region_held3 (fun W' => W'.cell? ⟨g, h, none⟩ = some (.int .i64 x) ∧ W'.cell? ⟨g, d, none⟩ = some (.int .i64 y))
          (first
            | exact ⟨d1, d2⟩
            | exact ⟨k1, k2⟩
            | fail)
          (first
            | (go_simp; go_at_call 53; refine (HC.out.call wr.drew y x HGR.out hx0 hxy hyN).mono ?_; rintro e w5 ⟨r, rfl, hr5, hb5⟩; rw [HLB.out] at hr5; have k1 := (hb5.cell (p := ⟨g, h, none⟩) (World.block_lt_of_cell? _ _ d1)).trans d1; have k2 := (hb5.cell (p := ⟨g, d, none⟩) (World.block_lt_of_cell? _ _ d2)).trans d2; have HB5 := Lib.hid hb5; clear hb5)
            | fail)
        have HA5 : Hid (ArrAt g (P ++ (L ++ (R ++ S))) w5) := Lib.hid (HA.out.drew.below HB5.out)
        have HO5 : Hid (Outside (· = g) w w5) := Lib.hid (HO.out.drew.trans (Outside.of_below HB5.out) (fun b _ hb => hb))
        cases lb with
        | false =>
          clear d1 d2
          go_wp2_with fail
          go_roundw
          case rel =>
            refine ⟨h + 1, j, by go_num, rfl, by omega, by omega, hjb, .inr ?_, HJ.out, HA5.out, HO5.out⟩
            rw [Nat.add_sub_cancel, HD.out, HX.out, HY.out]
            exact HLB.out
          case measure => simp [intOf] <;> omega
        | true =>
          clear d1 d2
          go_wp2_with fail
          go_roundw
          case rel =>
            refine ⟨i, h, rfl, rfl, hmi, hhi, by omega, HI.out, .inr ?_, HA5.out, HO5.out⟩
            rw [HD.out, HX.out, HY.out]
            exact HLB.out
          case measure => simp [intOf] <;> omega
      · obtain rfl : i = j := by omega
        have hlti : ¬ (i : Int) < (i : Int) := by omega
        obtain ⟨e, he⟩ : ∃ e, i + e = nn := ⟨nn - i, by omega⟩
        have HCUT := Lib.hid (cut_of ho HT.out.hL HT.out.hR HT.out.sL HT.out.sR HT.out.LR HNN.out HP.out hmi hjb k1 k2 k3 k4 (by have := HK5.out; omega) (by have := HK6.out; omega) he HI.out HJ.out)
        have ee : (nn : Int) - (i : Int) = (e : Int) := by omega
        have hee : e ≤ b := HCUT.out.heb
        clear harr hout he
        go_upto_region 39 with fail
        go_cut [185] from 178 (fun s wc => s = .bool (decide (i < m ∧ m < e)) ∧ wr = wc)
        case first =>
          go_wp2_with fail
          all_goals go_meet
          all_goals (refine ⟨?_, rfl⟩; congr 1; first | exact decide_eq_decide.2 (by omega) | exact (decide_eq_true (by omega)).symm | exact (decide_eq_false (by omega)).symm)
        case rest =>
        obtain ⟨rfl, rfl⟩ := hcut
        go_upto_if 185 with fail
        go_cut [] from 185 (fun wc => Parts1 g P L R S (i - a) (e - m) w wc)
        case first =>
          by_cases hc : i < m ∧ m < e
          · have hb : decide (i < m ∧ m < e) = true := decide_eq_true hc
            go_wp2_with (first
              | (go_at_call 60; refine (parts_rot HT.out HCUT.out hc.1 hc.2 HA.out HO.out).mono ?_; rintro e' w1 ⟨rfl, hp1⟩; have HNEW := Lib.hid hp1; clear hp1)
              | fail)
            go_meet
            case rel => exact HNEW.out
          · have hb : decide (i < m ∧ m < e) = false := decide_eq_false hc
            go_wp2_with fail
            go_meet
            case rel => exact parts_still HT.out HCUT.out hc HA.out HO.out
        case rest =>
        have HP1 := Lib.hid hcut
        clear hcut HA HO
        obtain ⟨wa, hwa⟩ : ∃ wa : World, wa = wc := ⟨_, rfl⟩
        rw [← hwa] at HP1 ⊢
        clear hwa
        go_upto_region 41 with fail
        go_cut [199] from 192 (fun s wc => s = .bool (decide (a < i ∧ i < mid)) ∧ wa = wc)
        case first =>
          go_wp2_with fail
          all_goals go_meet
          all_goals (refine ⟨?_, rfl⟩; congr 1; first | exact decide_eq_decide.2 (by omega) | exact (decide_eq_true (by omega)).symm | exact (decide_eq_false (by omega)).symm)
        case rest =>
        obtain ⟨rfl, rfl⟩ := hcut
        go_upto_if 199 with fail
        go_cut [] from 199 (fun wc => Parts2 g lt P L R S (i - a) (e - m) w wc)
        case first =>
          by_cases hc : a < i ∧ i < mid
          · have hb : decide (a < i ∧ i < mid) = true := decide_eq_true hc
            go_wp2_with (first
              | (go_at_call 59; refine (parts_one HC.out HS.out HG.out HT.out HCUT.out k9 hc.1 hc.2 HP1.out).mono ?_; rintro e' w2 ⟨rfl, hp2⟩; have HNEW := Lib.hid hp2; clear hp2)
              | fail)
            go_meet
            case rel => exact HNEW.out
          · have hb : decide (a < i ∧ i < mid) = false := decide_eq_false hc
            go_wp2_with fail
            go_meet
            case rel => exact parts_none1 HT.out HCUT.out hc HP1.out
        case rest =>
        have HP2 := Lib.hid hcut
        clear hcut HP1
        obtain ⟨wb, hwb⟩ : ∃ wb : World, wb = wc := ⟨_, rfl⟩
        rw [← hwb] at HP2 ⊢
        clear hwb
        go_upto_region 43 with fail
        go_cut [213] from 206 (fun s wc => s = .bool (decide (mid < e ∧ e < b)) ∧ wb = wc)
        case first =>
          go_wp2_with fail
          all_goals go_meet
          all_goals (refine ⟨?_, rfl⟩; congr 1; first | exact decide_eq_decide.2 (by omega) | exact (decide_eq_true (by omega)).symm | exact (decide_eq_false (by omega)).symm)
        case rest =>
        obtain ⟨rfl, rfl⟩ := hcut
        go_upto_if 213 with fail
        by_cases hc : mid < e ∧ e < b
        · have hb : decide (mid < e ∧ e < b) = true := decide_eq_true hc
          go_wp2_with (first
            | (go_at_call 59; refine (parts_two HC.out HS.out HG.out HT.out HCUT.out k8 k9 hc.1 hc.2 HP2.out).mono ?_; rintro e' w3 ⟨M, m1, m2, rfl, m3, m4⟩; have HNEW := Lib.hid (show RetPerm g lt P (L ++ R) S w (.returned (.tuple #[])) w3 from ⟨M, m1, m2, rfl, m3, m4⟩); clear m1 m2 m3 m4)
            | fail)
          go_end0
          exact HNEW.out
        · have hb : decide (mid < e ∧ e < b) = false := decide_eq_false hc
          go_wp2_with fail
          go_end0
          exact parts_none2 HT.out HCUT.out hc HP2.out
theorem sym_all {G : World → Prop} {g : Nat} {N : Int} {p1 p2 : Nat} {lt : Int → Int → Bool} (hC : CmpOK G g N p1 p2 lt) (ho : LO lt) (len : Nat) : ∀ d, SymOf G g N p1 p2 lt len d
  | 0 => fun a m b P L R S W h => absurd h (by omega)
  | d + 1 => by
    intro a m b P L R S W hd hG h
    have hS : SymOf G g N p1 p2 lt len (b - a) := fun a' m' b' P' L' R' S' W' h' => sym_all hC ho len d a' m' b' P' L' R' S' W' (by omega)
    by_cases h1 : L.length = 1
    · obtain ⟨x, rfl⟩ : ∃ x, L = [x] := List.length_eq_one_iff.1 h1
      exact sym_left hC ho a m b len P R S x W hG h
    · by_cases h2 : R.length = 1
      · obtain ⟨y, rfl⟩ : ∃ y, R = [y] := List.length_eq_one_iff.1 h2
        exact sym_right hC ho a m b len P L S y W hG h h1
      · exact sym_cut hC ho a m b len P L R S W hS hG h h1 h2
end Go.Proofs.Ytbnbeailbhnbdaa
