/-
  slices' stable sort at numbers: symMerge.
-/
import Derived.Test.YtbnbeailbhnbdaaSrtB
import Derived.Deep.CutRange
import Derived.Deep.DeepCutAuto
set_option linter.unusedVariables false
set_option linter.unusedSimpArgs false
namespace Go.Proofs.Ytbnbeailbhnbdaa
open Go.RowKit

def SymC (g a m s0 r0 p : Nat) (lt : Int → Int → Bool) (L R ds : List Int) (w : World) (s20 s21 : Value) (wr : World) : Prop :=
  ∃ i j : Nat, s20 = .int .i64 (i : Int) ∧ s21 = .int .i64 (j : Int) ∧ s0 ≤ i ∧ i ≤ j ∧ j ≤ r0 ∧ (i = s0 ∨ lt (R.getD (p - (i - 1) - m) 0) (L.getD (i - 1 - a) 0) = false) ∧ (j = r0 ∨ lt (R.getD (p - j - m) 0) (L.getD (j - a) 0) = true) ∧ ArrAt g ds wr ∧ Outside (· = g) w wr
set_option maxRecDepth 16384 in
set_option maxHeartbeats 8000000 in
theorem sym_cut {G : World → Prop} {g : Nat} {N : Int} {p1 p2 : Nat} {lt : Int → Int → Bool} (hC : CmpOK G g N p1 p2 lt) (ho : LO lt) (a m b len : Nat) (P L R S : List Int) (w : World) (hS : SymOf G g N p1 p2 lt len (b - a)) (hG : G w) (h : TwoAt g N lt a m b len P L R S w) (h2 : L.length ≠ 1) (h3 : R.length ≠ 1) :
    Calls Try.prog 59 #[.slice (some ⟨g, 0, none⟩) len len, .int .i64 (a : Int), .int .i64 (m : Int), .int .i64 (b : Int), cmpV p1 p2] w (RetPerm g lt P (L ++ R) S w) := by
  have hbl := h.ble
  have hsm := h.small
  have hLm := h.hL
  have hRb := h.hR
  have hL0 := h.L0
  have hR0 := h.R0
  obtain ⟨mid, hmid⟩ : ∃ mid, (a + b) / 2 = mid := ⟨_, rfl⟩
  obtain ⟨nn, hnn⟩ : ∃ nn, mid + m = nn := ⟨_, rfl⟩
  obtain ⟨p, hp⟩ : ∃ p, p + 1 = nn := ⟨nn - 1, by omega⟩
  have emid : ((a : Int) + (b : Int)) / 2 = (mid : Int) := by omega
  have enn : (mid : Int) + (m : Int) = (nn : Int) := by omega
  have ep : (nn : Int) - 1 = (p : Int) := by omega
  have e0 : ((b : Int) - (m : Int) == 1) = false := by
    simp
    omega
  have e1 : ((m : Int) - (a : Int) == 1) = false := by
    simp
    omega
  obtain ⟨s0, r0, hcase⟩ : ∃ s0 r0 : Nat, (mid < m ∧ s0 + b = nn ∧ mid = r0) ∨ (m ≤ mid ∧ a = s0 ∧ m = r0) := by
    rcases Nat.lt_or_ge mid m with h1 | h1
    · exact ⟨nn - b, mid, .inl ⟨h1, by omega, rfl⟩⟩
    · exact ⟨a, m, .inr ⟨h1, rfl, rfl⟩⟩
  have k1 : a ≤ s0 := by omega
  have k2 : r0 ≤ m := by omega
  have k3 : r0 ≤ mid := by omega
  have k4 : nn ≤ s0 + b := by omega
  have k5 : s0 = a ∨ s0 + b = nn := by omega
  have k6 : r0 = mid ∨ r0 = m := by omega
  have k7 : s0 ≤ r0 := by omega
  have k8 : a < mid := by omega
  have k9 : mid < b := by omega
  have k10 : nn ≤ 2 * len := by omega
  have k11 : p < nn := by omega
  have k12 : m + r0 ≤ nn := by omega
  have HK5 := Lib.hid k5
  have HK6 := Lib.hid k6
  have HP := Lib.hid hp
  have HNN := Lib.hid hnn
  have HT := Lib.hid h
  have HG := Lib.hid hG
  have HC := Lib.hid hC
  have HS := Lib.hid hS
  have HST : Hid (SymC g a m s0 r0 p lt L R (P ++ (L ++ (R ++ S))) w (.int .i64 (s0 : Int)) (.int .i64 (r0 : Int)) w) := Lib.hid ⟨s0, r0, rfl, rfl, Nat.le_refl _, k7, Nat.le_refl _, .inl rfl, .inl rfl, h.arr, Outside.refl _ _⟩
  clear h hG hC hS k5 k6 hmid hp hnn hLm hRb hL0 hR0
  unfold cmpV
  go_enter Try.func59, Try.ntmps59
  go_upto_if 140 with fail
  go_cut [20, 21] from 140 to 146 (fun s20 s21 wc => s20 = .int .i64 (s0 : Int) ∧ s21 = .int .i64 (r0 : Int) ∧ w = wc)
  case first =>
    rcases hcase with ⟨c1, c2, c3⟩ | ⟨c1, c2, c3⟩
    · have d1 : (mid : Int) < (m : Int) := by omega
      have d2 : (nn : Int) - (b : Int) = (s0 : Int) := by omega
      subst c3
      go_wp2_with fail
      go_meet
      case rel => exact ⟨rfl, rfl, rfl⟩
    · have d1 : ¬ (mid : Int) < (m : Int) := by omega
      subst c2 c3
      go_wp2_with fail
      go_meet
      case rel => exact ⟨rfl, rfl, rfl⟩
  case rest =>
    obtain ⟨rfl, rfl, rfl⟩ := hcut
    go_wp2_with fail
    go_loopw [20, 21] (fun s20 s21 wr => SymC g a m s0 r0 p lt L R (P ++ (L ++ (R ++ S))) w s20 s21 wr) (fun s20 s21 _ => (intOf s21).toNat - (intOf s20).toNat)
    case atStart => exact HST.out
    case round =>
      obtain ⟨i, j, rfl, rfl, hmi, hij, hjb, hI, hJ, harr, hout⟩ := hrel
      have HI := Lib.hid hI
      have HJ := Lib.hid hJ
      have HA := Lib.hid harr
      have HO := Lib.hid hout
      clear hI hJ
      by_cases hlt : i < j
      · have hlti : (i : Int) < (j : Int) := by omega
        obtain ⟨h, hh⟩ : ∃ h, (i + j) / 2 = h := ⟨_, rfl⟩
        have eh : ((i : Int) + (j : Int)) / 2 = (h : Int) := by omega
        have hhi : i ≤ h := by omega
        have hhj : h < j := by omega
        obtain ⟨d, hd⟩ : ∃ d, p - h = d := ⟨_, rfl⟩
        have hp := HP.out
        have hdm : m ≤ d := by omega
        have hdb : d < b := by omega
        have ed : (p : Int) - (h : Int) = (d : Int) := by omega
        have ew : IntKind.i64.wrap (d : Int) = (d : Int) := IntWalk.i64_in _ (by omega)
        have hhl : (h : Int) < (len : Int) := by omega
        have hdl : (d : Int) < (len : Int) := by omega
        have hd0 : (0 : Int) ≤ (d : Int) := by omega
        have hh0 : (0 : Int) ≤ (h : Int) := by omega
        obtain ⟨x, hx⟩ : ∃ x, L.getD (h - a) 0 = x := ⟨_, rfl⟩
        obtain ⟨y, hy⟩ : ∃ y, R.getD (d - m) 0 = y := ⟨_, rfl⟩
        have hxm : x ∈ L := by rw [← hx]; exact mem_getD (by have := HT.out.hL; omega)
        have hym : y ∈ R := by rw [← hy]; exact mem_getD (by have := HT.out.hR; omega)
        have d1 : wr.drew.cell? ⟨g, h, none⟩ = some (.int .i64 x) := by
          rw [← hx]
          exact HT.out.getL (by omega) (by omega) harr
        have d2 : wr.drew.cell? ⟨g, d, none⟩ = some (.int .i64 y) := by
          rw [← hy]
          exact HT.out.getR (by omega) (by omega) harr
        have HGR : Hid (G wr.drew) := Lib.hid (HC.out.keep _ _ HG.out hout.drew)
        have hxy := HT.out.LR x hxm y hym
        have hx0 := HT.out.lo x hxm
        have hyN := HT.out.hi y hym
        obtain ⟨lb, hlb⟩ : ∃ lb, lt y x = lb := ⟨_, rfl⟩
        have HLB := Lib.hid hlb
        have HX := Lib.hid hx
        have HY := Lib.hid hy
        have HD := Lib.hid hd
        clear harr hout hlb hh hx hy hxm hym hd hp
        go_wp2_with fail
        go_region_held3 (fun W' => W'.cell? ⟨g, h, none⟩ = some (.int .i64 x) ∧ W'.cell? ⟨g, d, none⟩ = some (.int .i64 y))
          (first
            | exact ⟨d1, d2⟩
            | exact ⟨k1, k2⟩
            | fail)
          (first
            | (go_simp; go_at_call 53; refine (HC.out.call wr.drew y x HGR.out hx0 hxy hyN).mono ?_; rintro e w5 ⟨r, rfl, hr5, hb5⟩; rw [HLB.out] at hr5; have k1 := (hb5.cell (p := ⟨g, h, none⟩) (World.block_lt_of_cell? _ _ d1)).trans d1; have k2 := (hb5.cell (p := ⟨g, d, none⟩) (World.block_lt_of_cell? _ _ d2)).trans d2; have HB5 := Lib.hid hb5; clear hb5)
            | fail)
        have HA5 : Hid (ArrAt g (P ++ (L ++ (R ++ S))) w5) := Lib.hid (HA.out.drew.below HB5.out)
        have HO5 : Hid (Outside (· = g) w w5) := Lib.hid (HO.out.drew.trans (Outside.of_below HB5.out) (fun b _ hb => hb))
        cases lb with
        | false =>
          clear d1 d2
          go_wp2_with fail
          go_roundw
          case rel =>
            refine ⟨h + 1, j, by go_num, rfl, by omega, by omega, hjb, .inr ?_, HJ.out, HA5.out, HO5.out⟩
            rw [Nat.add_sub_cancel, HD.out, HX.out, HY.out]
            exact HLB.out
          case measure => simp [intOf] <;> omega
        | true =>
          clear d1 d2
          go_wp2_with fail
          go_roundw
          case rel =>
            refine ⟨i, h, rfl, rfl, hmi, hhi, by omega, HI.out, .inr ?_, HA5.out, HO5.out⟩
            rw [HD.out, HX.out, HY.out]
            exact HLB.out
          case measure => simp [intOf] <;> omega
      · obtain rfl : i = j := by omega
        have hlti : ¬ (i : Int) < (i : Int) := by omega
        obtain ⟨e, he⟩ : ∃ e, i + e = nn := ⟨nn - i, by omega⟩
        have HCUT := Lib.hid (cut_of ho HT.out.hL HT.out.hR HT.out.sL HT.out.sR HT.out.LR HNN.out HP.out hmi hjb k1 k2 k3 k4 (by have := HK5.out; omega) (by have := HK6.out; omega) he HI.out HJ.out)
        have ee : (nn : Int) - (i : Int) = (e : Int) := by omega
        have hee : e ≤ b := HCUT.out.heb
        clear harr hout he
        go_upto_region 39 with fail
        go_cut [185] from 178 (fun s wc => s = .bool (decide (i < m ∧ m < e)) ∧ wr = wc)
        case first =>
          go_wp2_with fail
          all_goals go_meet
          all_goals (refine ⟨?_, rfl⟩; congr 1; first | exact decide_eq_decide.2 (by omega) | exact (decide_eq_true (by omega)).symm | exact (decide_eq_false (by omega)).symm)
        case rest =>
        obtain ⟨rfl, rfl⟩ := hcut
        go_upto_if 185 with fail
        go_cut [] from 185 (fun wc => Parts1 g P L R S (i - a) (e - m) w wc)
        case first =>
          by_cases hc : i < m ∧ m < e
          · have hb : decide (i < m ∧ m < e) = true := decide_eq_true hc
            go_wp2_with (first
              | (go_at_call 60; refine (parts_rot HT.out HCUT.out hc.1 hc.2 HA.out HO.out).mono ?_; rintro e' w1 ⟨rfl, hp1⟩; have HNEW := Lib.hid hp1; clear hp1)
              | fail)
            go_meet
            case rel => exact HNEW.out
          · have hb : decide (i < m ∧ m < e) = false := decide_eq_false hc
            go_wp2_with fail
            go_meet
            case rel => exact parts_still HT.out HCUT.out hc HA.out HO.out
        case rest =>
        have HP1 := Lib.hid hcut
        clear hcut HA HO
        obtain ⟨wa, hwa⟩ : ∃ wa : World, wa = wc := ⟨_, rfl⟩
        rw [← hwa] at HP1 ⊢
        clear hwa
        go_upto_region 41 with fail
        go_cut [199] from 192 (fun s wc => s = .bool (decide (a < i ∧ i < mid)) ∧ wa = wc)
        case first =>
          go_wp2_with fail
          all_goals go_meet
          all_goals (refine ⟨?_, rfl⟩; congr 1; first | exact decide_eq_decide.2 (by omega) | exact (decide_eq_true (by omega)).symm | exact (decide_eq_false (by omega)).symm)
        case rest =>
        obtain ⟨rfl, rfl⟩ := hcut
        go_upto_if 199 with fail
        go_cut [] from 199 (fun wc => Parts2 g lt P L R S (i - a) (e - m) w wc)
        case first =>
          by_cases hc : a < i ∧ i < mid
          · have hb : decide (a < i ∧ i < mid) = true := decide_eq_true hc
            go_wp2_with (first
              | (go_at_call 59; refine (parts_one HC.out HS.out HG.out HT.out HCUT.out k9 hc.1 hc.2 HP1.out).mono ?_; rintro e' w2 ⟨rfl, hp2⟩; have HNEW := Lib.hid hp2; clear hp2)
              | fail)
            go_meet
            case rel => exact HNEW.out
          · have hb : decide (a < i ∧ i < mid) = false := decide_eq_false hc
            go_wp2_with fail
            go_meet
            case rel => exact parts_none1 HT.out HCUT.out hc HP1.out
        case rest =>
        have HP2 := Lib.hid hcut
        clear hcut HP1
        obtain ⟨wb, hwb⟩ : ∃ wb : World, wb = wc := ⟨_, rfl⟩
        rw [← hwb] at HP2 ⊢
        clear hwb
        go_upto_region 43 with fail
        go_cut [213] from 206 (fun s wc => s = .bool (decide (mid < e ∧ e < b)) ∧ wb = wc)
        case first =>
          go_wp2_with fail
          all_goals go_meet
          all_goals (refine ⟨?_, rfl⟩; congr 1; first | exact decide_eq_decide.2 (by omega) | exact (decide_eq_true (by omega)).symm | exact (decide_eq_false (by omega)).symm)
        case rest =>
        obtain ⟨rfl, rfl⟩ := hcut
        go_upto_if 213 with fail
        by_cases hc : mid < e ∧ e < b
        · have hb : decide (mid < e ∧ e < b) = true := decide_eq_true hc
          go_wp2_with (first
            | (go_at_call 59; refine (parts_two HC.out HS.out HG.out HT.out HCUT.out k8 k9 hc.1 hc.2 HP2.out).mono ?_; rintro e' w3 ⟨M, m1, m2, rfl, m3, m4⟩; have HNEW := Lib.hid (show RetPerm g lt P (L ++ R) S w (.returned (.tuple #[])) w3 from ⟨M, m1, m2, rfl, m3, m4⟩); clear m1 m2 m3 m4)
            | fail)
          go_end0
          exact HNEW.out
        · have hb : decide (mid < e ∧ e < b) = false := decide_eq_false hc
          go_wp2_with fail
          go_end0
          exact parts_none2 HT.out HCUT.out hc HP2.out
theorem sym_all {G : World → Prop} {g : Nat} {N : Int} {p1 p2 : Nat} {lt : Int → Int → Bool} (hC : CmpOK G g N p1 p2 lt) (ho : LO lt) (len : Nat) : ∀ d, SymOf G g N p1 p2 lt len d
  | 0 => fun a m b P L R S W h => absurd h (by omega)
  | d + 1 => by
    intro a m b P L R S W hd hG h
    have hS : SymOf G g N p1 p2 lt len (b - a) := fun a' m' b' P' L' R' S' W' h' => sym_all hC ho len d a' m' b' P' L' R' S' W' (by omega)
    by_cases h1 : L.length = 1
    · obtain ⟨x, rfl⟩ : ∃ x, L = [x] := List.length_eq_one_iff.1 h1
      exact sym_left hC ho a m b len P R S x W hG h
    · by_cases h2 : R.length = 1
      · obtain ⟨y, rfl⟩ : ∃ y, R = [y] := List.length_eq_one_iff.1 h2
        exact sym_right hC ho a m b len P L S y W hG h h1
      · exact sym_cut hC ho a m b len P L R S W hS hG h h1 h2
end Go.Proofs.Ytbnbeailbhnbdaa
/-
  slices' stable sort at numbers: blocks; the two steps, told of intervals.
-/
set_option linter.unusedVariables false
set_option linter.unusedSimpArgs false
namespace Go.Proofs.Ytbnbeailbhnbdaa
open Go.RowKit

/-- The numbers from a to n, in order block by block. -/
def blk (lt : Int → Int → Bool) (s n a : Nat) : List Int := if h : 0 < s ∧ a + s ≤ n then srtI lt a (a + s) ++ blk lt s n (a + s) else srtI lt a n
termination_by n - a
decreasing_by omega
section
variable {lt : Int → Int → Bool}
theorem blk_more {s n a b : Nat} (hs : 0 < s) (hb : a + s = b) (h : b ≤ n) : blk lt s n a = srtI lt a b ++ blk lt s n b := by
  subst hb
  rw [blk, dif_pos ⟨hs, h⟩]
theorem blk_last {s n a : Nat} (h : n < a + s) : blk lt s n a = srtI lt a n := by
  rw [blk, dif_neg (by omega)]
theorem srtI_nil (a : Nat) : srtI lt a a = [] := List.length_eq_zero_iff.1 (by rw [srtI_length, Nat.sub_self])
theorem blk_end {s n a : Nat} (ha : a ≤ n) (h : n ≤ a + s) : blk lt s n a = srtI lt a n := by
  rcases Nat.lt_or_ge n (a + s) with h1 | h1
  · exact blk_last h1
  · rcases Nat.eq_zero_or_pos s with h0 | h0
    · rw [blk, dif_neg (by omega)]
    · have : a + s = n := by omega
      rw [blk_more h0 this (Nat.le_refl _), blk_last (by omega), srtI_nil, List.append_nil]
theorem blk_length {s n : Nat} (hs : 0 < s) : ∀ d a, n - a ≤ d → a ≤ n → (blk lt s n a).length = n - a
  | 0, a, h, ha => by
    rw [blk_last (by omega), srtI_length]
  | d + 1, a, h, ha => by
    rcases Nat.lt_or_ge n (a + s) with h1 | h1
    · rw [blk_last h1, srtI_length]
    · rw [blk_more hs rfl h1, List.length_append, srtI_length, blk_length hs d (a + s) (by omega) h1]
      omega
end
/-- The row holds these numbers; nothing else has turned. -/
def RetArr2 (g : Nat) (ds : List Int) (w : World) (e : Ending) (w' : World) : Prop := e = .returned (.tuple #[]) ∧ ArrAt g ds w' ∧ Outside (· = g) w w'
section
variable {G : World → Prop} {g n p1 p2 : Nat} {lt : Int → Int → Bool} {w W : World}
theorem ins_call (hC : CmpOK G g (n : Int) p1 p2 lt) (ho : LO lt) {a b len : Nat} {Pre S : List Int} (hG : G w) (hO : Outside (· = g) w W) (h : ArrAt g (Pre ++ (ival a b ++ S)) W) (hP : Pre.length = a) (hab : a ≤ b) (hbn : b ≤ n) (hl : (Pre ++ (ival a b ++ S)).length = len) (hm : len ≤ 140737488355328) :
    Calls Try.prog 58 #[.slice (some ⟨g, 0, none⟩) len len, .int .i64 (a : Int), .int .i64 (b : Int), cmpV p1 p2] W (RetArr2 g (Pre ++ (srtI lt a b ++ S)) w) := by
  refine (insertion_any hC ho a b len Pre (ival a b) S W (hC.keep _ _ hG hO) h hP (by rw [ival_length]; omega) (ival_lt a b) (fun x hx => ?_) hl hm).mono ?_
  · have := mem_ival.1 hx
    omega
  · rintro e W' ⟨M, p, q, rfl, h1, h2⟩
    rw [srtI_of ho q p] at h1
    exact ⟨rfl, h1, hO.trans h2 (fun b _ hb => hb)⟩
theorem mrg_call (hC : CmpOK G g (n : Int) p1 p2 lt) (ho : LO lt) {a m b len : Nat} {Pre S : List Int} (hG : G w) (hO : Outside (· = g) w W) (h : ArrAt g (Pre ++ (srtI lt a m ++ (srtI lt m b ++ S))) W) (hP : Pre.length = a) (ham : a < m) (hmb : m < b) (hbn : b ≤ n) (hl : (Pre ++ (srtI lt a m ++ (srtI lt m b ++ S))).length = len) (hm : len ≤ 140737488355328) :
    Calls Try.prog 59 #[.slice (some ⟨g, 0, none⟩) len len, .int .i64 (a : Int), .int .i64 (m : Int), .int .i64 (b : Int), cmpV p1 p2] W (RetArr2 g (Pre ++ (srtI lt a b ++ S)) w) := by
  refine (sym_all hC ho len (b - a + 1) a m b Pre (srtI lt a m) (srtI lt m b) S W (by omega) (hC.keep _ _ hG hO) ⟨h, hP, ?_, ?_, ?_, ?_, srtI_srt ho _ _, srtI_srt ho _ _, ?_, ?_, ?_, hl, hm⟩).mono ?_
  · rw [srtI_length]; omega
  · rw [srtI_length]; omega
  · rw [srtI_length]; omega
  · rw [srtI_length]; omega
  · intro x hx y hy
    have := mem_srtI.1 hx
    have := mem_srtI.1 hy
    omega
  · intro x hx
    have := mem_srtI.1 hx
    omega
  · intro x hx
    have := mem_srtI.1 hx
    omega
  · rintro e W' ⟨M, p, q, rfl, h1, h2⟩
    rw [srtI_of ho q (p.trans (by rw [ival_split (a := a) (m := m) (b := b) (by omega) (by omega)]; exact (srtI_perm a m).append (srtI_perm m b)))] at h1
    exact ⟨rfl, h1, hO.trans h2 (fun b _ hb => hb)⟩
end
def StLoop1 (g n : Nat) (lt : Int → Int → Bool) (w : World) (s7 s8 : Value) (wr : World) : Prop :=
  ∃ (a b : Nat) (Pre : List Int), s7 = .int .i64 (a : Int) ∧ s8 = .int .i64 (b : Int) ∧ a + 20 = b ∧ Pre.length = a ∧ a ≤ n ∧ Pre ++ blk lt 20 n a = blk lt 20 n 0 ∧ ArrAt g (Pre ++ ival a n) wr ∧ Outside (· = g) w wr
def StLoop2 (g n : Nat) (lt : Int → Int → Bool) (w : World) (s6 : Value) (wr : World) : Prop :=
  ∃ (s : Nat), s6 = .int .i64 (s : Int) ∧ 0 < s ∧ s ≤ 2 * n + 20 ∧ ArrAt g (blk lt s n 0) wr ∧ Outside (· = g) w wr
def StLoop3 (g n s : Nat) (lt : Int → Int → Bool) (w : World) (s7 s8 : Value) (wr : World) : Prop :=
  ∃ (a b : Nat) (Pre : List Int), s7 = .int .i64 (a : Int) ∧ s8 = .int .i64 (b : Int) ∧ a + 2 * s = b ∧ Pre.length = a ∧ a ≤ n ∧ Pre ++ blk lt (2 * s) n a = blk lt (2 * s) n 0 ∧ ArrAt g (Pre ++ blk lt s n a) wr ∧ Outside (· = g) w wr
set_option maxHeartbeats 4000000 in
theorem stable_any {G : World → Prop} {g n p1 p2 : Nat} {lt : Int → Int → Bool} {w : World} (hC : CmpOK G g (n : Int) p1 p2 lt) (ho : LO lt) (hG : G w) (h : ArrAt g (ival 0 n) w) (hm : n ≤ 140737488355328) :
    Calls Try.prog 57 #[.slice (some ⟨g, 0, none⟩) n n, .int .i64 (n : Int), cmpV p1 p2] w (RetArr2 g (srtI lt 0 n) w) := by
  have HG := Lib.hid hG
  have HC := Lib.hid hC
  have HO := Lib.hid ho
  have HST : Hid (StLoop1 g n lt w (.int .i64 0) (.int .i64 20) w) := Lib.hid ⟨0, 20, [], rfl, rfl, rfl, rfl, Nat.zero_le _, rfl, h, Outside.refl _ _⟩
  clear hG hC ho h
  unfold cmpV
  go_enter Try.func57, Try.ntmps57
  go_wp2_with fail
  go_loopw [7, 8] (fun s7 s8 wr => StLoop1 g n lt w s7 s8 wr) (fun s7 _ _ => n + 1 - (intOf s7).toNat)
  case atStart => exact HST.out
  case round =>
    obtain ⟨a, b, Pre, rfl, rfl, hab, hP, han, hB, harr, hout⟩ := hrel
    have HP := Lib.hid hP
    have HB := Lib.hid hB
    have HA := Lib.hid harr
    have HOU := Lib.hid hout
    clear hP hB harr hout
    by_cases hlt : b ≤ n
    · have hbi : (b : Int) ≤ (n : Int) := by omega
      have hlen : (Pre ++ (ival a b ++ ival b n)).length = n := by simp only [List.length_append, ival_length]; have := HP.out; omega
      have HL := Lib.hid hlen
      have HA2 : Hid (ArrAt g (Pre ++ (ival a b ++ ival b n)) wr) := Lib.hid (by rw [← ival_split (by omega) hlt]; exact HA.out)
      have HB2 : Hid ((Pre ++ srtI lt a b) ++ blk lt 20 n b = blk lt 20 n 0) := Lib.hid (by rw [List.append_assoc, ← blk_more (by omega) hab hlt]; exact HB.out)
      clear hlen HA HB
      go_wp2_with (first
        | (go_at_call 58; refine (ins_call HC.out HO.out HG.out HOU.out HA2.out HP.out (by omega) hlt HL.out hm).mono ?_; rintro e w1 ⟨rfl, ha1, ho1⟩; have HA3 := Lib.hid ha1; have HO3 := Lib.hid ho1; clear ha1 ho1)
        | fail)
      go_roundw
      case rel =>
        refine ⟨b, b + 20, _, rfl, by go_num, rfl, ?_, hlt, HB2.out, ?_, HO3.out⟩
        · rw [List.length_append, srtI_length]; have := HP.out; omega
        · rw [List.append_assoc]; exact HA3.out
      case measure => simp [intOf] <;> omega
    · have hbi : ¬ (b : Int) ≤ (n : Int) := by omega
      have hlen : (Pre ++ (ival a n ++ [])).length = n := by simp only [List.length_append, ival_length, List.length_nil]; have := HP.out; omega
      have HL := Lib.hid hlen
      have HA2 : Hid (ArrAt g (Pre ++ (ival a n ++ [])) wr) := Lib.hid (by rw [List.append_nil]; exact HA.out)
      have HB2 : Hid (Pre ++ (srtI lt a n ++ []) = blk lt 20 n 0) := Lib.hid (by rw [List.append_nil, ← blk_last (s := 20) (by omega)]; exact HB.out)
      clear hlen HA HB
      go_wp2_with (first
        | (go_at_call 58; refine (ins_call HC.out HO.out HG.out HOU.out HA2.out HP.out han (Nat.le_refl _) HL.out hm).mono ?_; rintro e w1 ⟨rfl, ha1, ho1⟩; have HA3 := Lib.hid ha1; have HO3 := Lib.hid ho1; clear ha1 ho1)
        | fail)
      have HST2 : Hid (StLoop2 g n lt w (.int .i64 20) w1) := Lib.hid ⟨20, rfl, by omega, by omega, by rw [← HB2.out]; exact HA3.out, HO3.out⟩
      clear HA2 HB2 HL HA3 HO3 HOU HP
      go_loopw [6] (fun s6 wr => StLoop2 g n lt w s6 wr) (fun s6 _ => n + 1 - (intOf s6).toNat)
      case atStart => exact HST2.out
      case round =>
        obtain ⟨s, rfl, hs0, hsn, harr, hout⟩ := hrel
        by_cases hlt : s < n
        · have hsi : (s : Int) < (n : Int) := by omega
          have HST3 : Hid (StLoop3 g n s lt w (.int .i64 0) (.int .i64 (2 * (s : Int))) wr) := Lib.hid ⟨0, 2 * s, [], rfl, by go_num, by omega, rfl, Nat.zero_le _, rfl, harr, hout⟩
          clear harr hout
          go_wp2_with fail
          obtain ⟨wo, hwo⟩ : ∃ wo : World, wo = wr := ⟨_, rfl⟩
          rw [← hwo] at HST3 ⊢
          clear hwo
          go_loopw [7, 8] (fun s7 s8 wr => StLoop3 g n s lt w s7 s8 wr) (fun s7 _ _ => n + 1 - (intOf s7).toNat)
          case atStart => exact HST3.out
          case round =>
            obtain ⟨a, b, Pre, rfl, rfl, hab, hP, han, hB, harr, hout⟩ := hrel
            have HP := Lib.hid hP
            have HB := Lib.hid hB
            have HA := Lib.hid harr
            have HOU := Lib.hid hout
            obtain ⟨m, hm1⟩ : ∃ m, a + s = m := ⟨_, rfl⟩
            have em : (a : Int) + (s : Int) = (m : Int) := by omega
            clear hP hB harr hout
            by_cases hlt2 : b ≤ n
            · have hbi : (b : Int) ≤ (n : Int) := by omega
              have HA2 : Hid (ArrAt g (Pre ++ (srtI lt a m ++ (srtI lt m b ++ blk lt s n b))) wr) := Lib.hid (by rw [← blk_more (s := s) hs0 (by omega) hlt2, ← blk_more hs0 hm1 (by omega)]; exact HA.out)
              have hlen : (Pre ++ (srtI lt a m ++ (srtI lt m b ++ blk lt s n b))).length = n := by simp only [List.length_append, srtI_length, blk_length hs0 (n - b) b (Nat.le_refl _) hlt2]; have := HP.out; omega
              have HL := Lib.hid hlen
              have HB2 : Hid ((Pre ++ srtI lt a b) ++ blk lt (2 * s) n b = blk lt (2 * s) n 0) := Lib.hid (by rw [List.append_assoc, ← blk_more (by omega) hab hlt2]; exact HB.out)
              clear hlen HA HB
              go_wp2_with (first
                | (go_at_call 59; refine (mrg_call HC.out HO.out HG.out HOU.out HA2.out HP.out (by omega) (by omega) hlt2 HL.out hm).mono ?_; rintro e w2 ⟨rfl, ha1, ho1⟩; have HA3 := Lib.hid ha1; have HO3 := Lib.hid ho1; clear ha1 ho1)
                | fail)
              go_roundw
              case rel =>
                refine ⟨b, b + 2 * s, _, rfl, by go_num, rfl, ?_, hlt2, HB2.out, ?_, HO3.out⟩
                · rw [List.length_append, srtI_length]; have := HP.out; omega
                · rw [List.append_assoc]; exact HA3.out
              case measure => simp [intOf] <;> omega
            · have hbi : ¬ (b : Int) ≤ (n : Int) := by omega
              have HB2 : Hid (Pre ++ srtI lt a n = blk lt (2 * s) n 0) := Lib.hid (by rw [← blk_last (s := 2 * s) (by omega)]; exact HB.out)
              by_cases hlt3 : m < n
              · have hmi : (m : Int) < (n : Int) := by omega
                have HA2 : Hid (ArrAt g (Pre ++ (srtI lt a m ++ (srtI lt m n ++ []))) wr) := Lib.hid (by rw [List.append_nil, ← blk_last (s := s) (n := n) (a := m) (by omega), ← blk_more hs0 hm1 (by omega)]; exact HA.out)
                have hlen : (Pre ++ (srtI lt a m ++ (srtI lt m n ++ []))).length = n := by simp only [List.length_append, srtI_length, List.length_nil]; have := HP.out; omega
                have HL := Lib.hid hlen
                clear hlen HA HB
                go_wp2_with (first
                  | (go_at_call 59; refine (mrg_call HC.out HO.out HG.out HOU.out HA2.out HP.out (by omega) hlt3 (Nat.le_refl _) HL.out hm).mono ?_; rintro e w2 ⟨rfl, ha1, ho1⟩; have HA3 := Lib.hid ha1; have HO3 := Lib.hid ho1; clear ha1 ho1)
                  | fail)
                go_roundw
                case rel =>
                  refine ⟨s * 2, by go_num, by omega, by omega, ?_, HO3.out⟩
                  rw [Nat.mul_comm s 2, ← HB2.out]
                  simpa using HA3.out
                case measure => simp [intOf] <;> omega
              · have hmi : ¬ (m : Int) < (n : Int) := by omega
                go_wp2_with fail
                go_roundw
                case rel =>
                  refine ⟨s * 2, by go_num, by omega, by omega, ?_, HOU.out⟩
                  rw [Nat.mul_comm s 2, ← HB2.out, ← blk_end (s := s) han (by omega)]
                  exact HA.out
                case measure => simp [intOf] <;> omega
        · have hsi : ¬ (s : Int) < (n : Int) := by omega
          have HA := Lib.hid harr
          have HOU := Lib.hid hout
          clear harr hout
          go_wp2_with fail
          go_end0
          refine ⟨rfl, ?_, HOU.out⟩
          rw [← blk_end (s := s) (Nat.zero_le _) (by omega)]
          exact HA.out
end Go.Proofs.Ytbnbeailbhnbdaa
/-
  slices.SortStableFunc; cmp.Compare, cmp.Or; calls as values.
-/
set_option linter.unusedVariables false
set_option linter.unusedSimpArgs false
namespace Go.Proofs.Ytbnbeailbhnbdaa
open Go.RowKit

theorem sort_any {G : World → Prop} {g n p1 p2 : Nat} {lt : Int → Int → Bool} {w : World} (hC : CmpOK G g (n : Int) p1 p2 lt) (ho : LO lt) (hG : G w) (h : ArrAt g (ival 0 n) w) (hm : n ≤ 140737488355328) :
    Calls Try.prog 52 #[.slice (some ⟨g, 0, none⟩) n n, cmpV p1 p2] w (RetArr2 g (srtI lt 0 n) w) := by
  have HG := Lib.hid hG
  have HC := Lib.hid hC
  have HO := Lib.hid ho
  have HA := Lib.hid h
  clear hG hC ho h
  unfold cmpV
  go_enter Try.func52, Try.ntmps52
  go_wp2_with (first
    | (go_at_call 57; refine (stable_any HC.out HO.out HG.out HA.out hm).mono ?_; rintro e w1 ⟨rfl, ha1, ho1⟩)
    | fail)
  go_end0
  exact ⟨rfl, ha1, ho1⟩
def cmpI (x y : Int) : Int := if x < y then -1 else if y < x then 1 else 0
theorem nan_any (x : Int) (w : World) : Calls Try.prog 54 #[.int .i64 x] w fun e w' => e = .returned (.bool false) ∧ w = w' := by
  go_enter Try.func54, Try.ntmps54
  go_wp2
  go_ret
  exact ⟨by simp, rfl⟩
theorem compare_any (x y : Int) (w : World) : Calls Try.prog 40 #[.int .i64 x, .int .i64 y] w fun e w' => e = .returned (.int .i64 (cmpI x y)) ∧ w = w' := by
  by_cases h1 : x < y
  · have h : cmpI x y = -1 := by simp [cmpI, h1]
    rw [h]
    go_enter Try.func40, Try.ntmps40
    go_wp2_with (first
      | (go_at_call 54; refine (nan_any _ _).mono ?_; rintro e w' ⟨rfl, rfl⟩)
      | fail)
    go_ret
    exact ⟨rfl, rfl⟩
  · by_cases h2 : y < x
    · have h : cmpI x y = 1 := by simp [cmpI, h1, h2]
      rw [h]
      go_enter Try.func40, Try.ntmps40
      go_wp2_with (first
        | (go_at_call 54; refine (nan_any _ _).mono ?_; rintro e w' ⟨rfl, rfl⟩)
        | fail)
      go_ret
      exact ⟨rfl, rfl⟩
    · have h : cmpI x y = 0 := by simp [cmpI, h1, h2]
      rw [h]
      go_enter Try.func40, Try.ntmps40
      go_wp2_with (first
        | (go_at_call 54; refine (nan_any _ _).mono ?_; rintro e w' ⟨rfl, rfl⟩)
        | fail)
      go_ret
      exact ⟨rfl, rfl⟩
/-- The first that is not nothing. -/
def orL : List Int → Int
  | [] => 0
  | x :: l => if x = 0 then orL l else x
theorem orL_drop {vs : List Int} {k : Nat} (hk : k < vs.length) : orL (vs.drop k) = if vs.getD k 0 = 0 then orL (vs.drop (k + 1)) else vs.getD k 0 := by
  rw [getD_of hk, ← List.getElem_cons_drop hk]
  rfl
set_option maxHeartbeats 1000000 in
theorem or_any (g : Nat) (vs : List Int) (n : Nat) (w : World) (h : ArrAt g vs w) (hn : vs.length = n) (hm : n ≤ 140737488355328) :
    Calls Try.prog 39 #[.slice (some ⟨g, 0, none⟩) n n] w fun e w' => e = .returned (.int .i64 (orL vs)) ∧ w = w' := by
  have HA := Lib.hid h
  have HN := Lib.hid hn
  clear h hn
  go_enter Try.func39, Try.ntmps39
  go_wp2_with fail
  go_loopw [8] (fun s8 wr => ∃ k : Nat, s8 = .int .i64 (k : Int) ∧ k ≤ n ∧ orL (vs.drop k) = orL vs ∧ w = wr) (fun s8 _ => n - (intOf s8).toNat)
  case atStart => exact ⟨0, rfl, Nat.zero_le _, rfl, rfl⟩
  case round =>
    obtain ⟨k, rfl, hk, ho, rfl⟩ := hrel
    by_cases hlt : k < n
    · have hki : (k : Int) < (n : Int) := by omega
      have hkl : k < vs.length := by have := HN.out; omega
      have hc := HA.out.cell hkl
      have hd := orL_drop hkl
      obtain ⟨x, hx⟩ : ∃ x, vs.getD k 0 = x := ⟨_, rfl⟩
      rw [hx] at hc hd
      rw [ho] at hd
      by_cases h0 : x = 0
      · subst h0
        have HD := Lib.hid hd
        clear hd ho hx hkl
        go_wp2_with fail
        go_roundw
        case rel => exact ⟨k + 1, by go_num, hlt, by rw [HD.out, if_pos rfl], by trivial⟩
        case measure => simp [intOf] <;> omega
      · rw [if_neg h0] at hd
        have hb : (x != 0) = true := by simp [h0]
        have HD := Lib.hid hd
        clear hd ho hx hkl
        go_wp2_with fail
        go_ret
        exact ⟨by rw [HD.out]; rfl, rfl⟩
    · have hki : ¬ (k : Int) < (n : Int) := by omega
      have h0 : orL vs = 0 := by
        rw [← ho, List.drop_of_length_le (by have := HN.out; omega)]
        rfl
      have HD := Lib.hid h0
      clear ho h0
      go_wp2_with fail
      go_ret
      exact ⟨by rw [HD.out]; rfl, rfl⟩
end Go.Proofs.Ytbnbeailbhnbdaa
