/-
  Layer 11: lists of servers that may be: Right of the program and of the reference.
-/
import Derived.Test.YtopcgnilajmnhaaProg
import Derived.Test.YtopcgnilajmnhaaRowK
import Derived.Test.YtopcgnilajmnhaaStep
set_option linter.unusedVariables false
set_option linter.unusedSimpArgs false
namespace Go.Proofs.Ytopcgnilajmnhaa
open Go.RowKit

/-- The ith stands where it may not. -/
def badAt (l : List Int) (i : Nat) : Bool := decide (l.getD i 0 < 0) || (decide (16 ≤ l.getD i 0) || (decide (0 < i) && decide (l.getD i 0 ≤ l.getD (i - 1) 0)))
def rightB (l : List Int) : Bool := (List.range l.length).all (fun i => !badAt l i) && (decide (1 ≤ l.length) && decide (l.length ≤ 7))
theorem ints_at {w : World} {A : Option Addr} {is : List Int} (h : Sees w A (is.map i64v)) (k : Nat) (hk : k < is.length) : ∃ ad, A = some ad ∧ w.cell? (ad.add k) = some (.int .i64 is[k]) := by
  exact h k _ (by simp [i64v, hk])
theorem drew_of {w wr : World} (h : ∃ n, wr = w.drewN n) (m : Nat) : ∃ n, wr.drewN m = w.drewN n := by
  obtain ⟨n, rfl⟩ := h
  exact ⟨_, by rw [World.drewN_drewN]⟩
theorem sees_drew {w wr : World} {A : Option Addr} {vs : List Value} (h : Sees w A vs) (hd : ∃ n, wr = w.drewN n) : Sees wr A vs := by
  obtain ⟨n, rfl⟩ := hd
  exact h.drewN n
theorem right_no {l : List Int} {i : Nat} (hi : i < l.length) (h : badAt l i = true) : rightB l = false := by
  unfold rightB
  rw [Bool.and_eq_false_iff]
  left
  rw [List.all_eq_false]
  exact ⟨i, by simpa using hi, by simp [h]⟩
theorem right_end {l : List Int} (h : ∀ i, i < l.length → badAt l i = false) : rightB l = (decide (1 ≤ l.length) && decide (l.length ≤ 7)) := by
  unfold rightB
  have : (List.range l.length).all (fun i => !badAt l i) = true := by
    rw [List.all_eq_true]
    intro i hi
    simp [h i (by simpa using hi)]
  rw [this, Bool.true_and]
theorem getD_at {l : List Int} {k : Nat} (hk : k < l.length) : l.getD k 0 = l[k] := by simp [List.getD_eq_getElem?_getD, hk]
theorem forall_lt {p : Nat → Prop} {k : Nat} : (∀ i, i < k + 1 → p i) ↔ (∀ i, i < k → p i) ∧ p k :=
  ⟨fun h => ⟨fun i hi => h i (by omega), h k (by omega)⟩, fun h i hi => by
    by_cases e : i = k
    · exact e ▸ h.2
    · exact h.1 i (by omega)⟩
set_option maxHeartbeats 1000000 in
theorem right_any (A : Option Addr) (is : List Int) (c : Nat) (w : World) (hc : is.length ≤ c) (hl : is.length ≤ 140737488355328) (h : Sees w A (is.map i64v)) :
    Calls Try.prog 16 #[.slice A is.length c] w (RetQuiet w (.bool (rightB is))) := by
  have H := Lib.hid h
  clear h
  go_enter Try.func16, Try.ntmps16
  go_wp2
  go_loopw [6] (fun s6 wr => ∃ k : Nat, s6 = .int .i64 (k : Int) ∧ k ≤ is.length ∧ (∀ i, i < k → badAt is i = false) ∧ ∃ n, wr = w.drewN n) (fun s6 _ => is.length - (intOf s6).toNat)
  case atStart => exact ⟨0, rfl, Nat.zero_le _, fun i hi => by omega, 0, rfl⟩
  case round =>
    obtain ⟨k, rfl, hk, hok, hwr⟩ := hrel
    have HOK := Lib.hid hok
    have HSR := Lib.hid (sees_drew H.out hwr)
    have HWR := Lib.hid hwr
    clear hok hwr
    by_cases hlt : k < is.length
    · obtain ⟨ad, rfl, hc0⟩ := ints_at HSR.out k hlt
      have hki : (k : Int) < (is.length : Int) := by omega
      have hk0 : (0 : Int) ≤ (k : Int) := by omega
      obtain ⟨x, hx⟩ : ∃ x, is[k] = x := ⟨_, rfl⟩
      rw [hx] at hc0
      have HX : Hid (is.getD k 0 = x) := Lib.hid (by rw [getD_at hlt, hx])
      clear hx
      by_cases h0 : x < 0
      · have hb : badAt is k = true := by unfold badAt; rw [HX.out]; simp [h0]
        have HB := Lib.hid (right_no hlt hb)
        clear hb
        go_wp2
        go_quiet (fail)
        go_wp2
        go_ret
        exact ⟨by rw [HB.out]; rfl, drew_of HWR.out _⟩
      by_cases h16 : 16 ≤ x
      · have hb : badAt is k = true := by unfold badAt; rw [HX.out]; simp [h16]
        have HB := Lib.hid (right_no hlt hb)
        have d0 : decide (x < 0) = false := by simpa using h0
        clear hb
        go_wp2
        go_quiet (fail)
        go_wp2
        go_ret
        exact ⟨by rw [HB.out]; rfl, drew_of HWR.out _⟩
      have d0 : decide (x < 0) = false := by simpa using h0
      have d16 : decide (16 ≤ x) = false := by simpa using h16
      by_cases hkz : k = 0
      · subst hkz
        have hc00 : wr.cell? ad = some (.int .i64 x) := hc0
        have HB : Hid (badAt is 0 = false) := Lib.hid (by unfold badAt; rw [HX.out]; simp; omega)
        go_wp2
        go_quiet (fail)
        go_wp2
        go_roundw
        case rel => exact ⟨1, by rfl, by omega, by rw [forall_lt]; exact ⟨HOK.out, HB.out⟩, drew_of HWR.out _⟩
        case measure => simp [intOf]; omega
      obtain ⟨j, hjk⟩ : ∃ j, k = j + 1 := ⟨k - 1, by omega⟩
      have HJK := Lib.hid hjk
      have hjlt : j < is.length := by omega
      obtain ⟨_, e, hc1⟩ := ints_at HSR.out j hjlt
      cases e
      have hj0 : (0 : Int) ≤ (j : Int) := by omega
      have hj1 : (j : Int) < (is.length : Int) := by omega
      have hj2 : IntKind.i64.wrap ((k : Int) - 1) = (j : Int) := by rw [IntWalk.i64_in _ (by omega)]; omega
      have hj4 : (0 : Int) < (k : Int) := by omega
      have hj5 : 0 < k := by omega
      have hj3 : decide (0 < k) = true := by simpa using hj5
      have hkj : k - 1 = j := by omega
      have HKJ := Lib.hid hkj
      clear hjk hkj
      obtain ⟨y, hy⟩ : ∃ y, is[j] = y := ⟨_, rfl⟩
      rw [hy] at hc1
      have HY : Hid (is.getD j 0 = y) := Lib.hid (by rw [getD_at hjlt, hy])
      clear hy
      by_cases hxy : x ≤ y
      · have hb : badAt is k = true := by unfold badAt; rw [HX.out, HKJ.out, HY.out]; simp [hxy]; omega
        have HB := Lib.hid (right_no hlt hb)
        clear hb
        go_wp2
        go_quiet (fail)
        go_wp2
        go_ret
        exact ⟨by rw [HB.out]; rfl, drew_of HWR.out _⟩
      have dxy : decide (x ≤ y) = false := by simpa using hxy
      have HB : Hid (badAt is k = false) := Lib.hid (by unfold badAt; rw [HX.out, HKJ.out, HY.out]; simp; omega)
      go_wp2
      go_quiet (fail)
      go_wp2
      go_roundw
      case rel => exact ⟨k + 1, by go_num, by omega, by rw [forall_lt]; exact ⟨HOK.out, HB.out⟩, drew_of HWR.out _⟩
      case measure => simp [intOf]; omega
    · obtain rfl : k = is.length := by omega
      have hki : ¬ ((is.length : Int) < (is.length : Int)) := by omega
      have HE := Lib.hid (right_end HOK.out)
      by_cases h1 : 1 ≤ is.length
      · have h1i : (1 : Int) ≤ (is.length : Int) := by omega
        by_cases h7 : is.length ≤ 7
        · have h7i : (is.length : Int) ≤ 7 := by omega
          go_wp2
          go_ret
          exact ⟨by rw [HE.out]; simp [h1, h7], HWR.out⟩
        · have h7i : ¬ (is.length : Int) ≤ 7 := by omega
          go_wp2
          go_ret
          exact ⟨by rw [HE.out]; simp [h7], HWR.out⟩
      · have h1i : ¬ (1 : Int) ≤ (is.length : Int) := by omega
        go_wp2
        go_ret
        exact ⟨by rw [HE.out]; simp [h1], HWR.out⟩
set_option maxHeartbeats 1000000 in
theorem refright_any (A : Option Addr) (is : List Int) (c : Nat) (w : World) (hc : is.length ≤ c) (hl : is.length ≤ 140737488355328) (h : Sees w A (is.map i64v)) :
    Calls Try.prog 29 #[.slice A is.length c] w (RetQuiet w (.bool (rightB is))) := by
  have H := Lib.hid h
  clear h
  go_enter Try.func29, Try.ntmps29
  go_wp2
  go_loopw [3] (fun s6 wr => ∃ k : Nat, s6 = .int .i64 (k : Int) ∧ k ≤ is.length ∧ (∀ i, i < k → badAt is i = false) ∧ ∃ n, wr = w.drewN n) (fun s6 _ => is.length - (intOf s6).toNat)
  case atStart => exact ⟨0, rfl, Nat.zero_le _, fun i hi => by omega, 0, rfl⟩
  case round =>
    obtain ⟨k, rfl, hk, hok, hwr⟩ := hrel
    have HOK := Lib.hid hok
    have HSR := Lib.hid (sees_drew H.out hwr)
    have HWR := Lib.hid hwr
    clear hok hwr
    by_cases hlt : k < is.length
    · obtain ⟨ad, rfl, hc0⟩ := ints_at HSR.out k hlt
      have hki : (k : Int) < (is.length : Int) := by omega
      have hk0 : (0 : Int) ≤ (k : Int) := by omega
      obtain ⟨x, hx⟩ : ∃ x, is[k] = x := ⟨_, rfl⟩
      rw [hx] at hc0
      have HX : Hid (is.getD k 0 = x) := Lib.hid (by rw [getD_at hlt, hx])
      clear hx
      by_cases h0 : x < 0
      · have hb : badAt is k = true := by unfold badAt; rw [HX.out]; simp [h0]
        have HB := Lib.hid (right_no hlt hb)
        clear hb
        go_wp2
        go_quiet (fail)
        go_wp2
        go_ret
        exact ⟨by rw [HB.out]; rfl, drew_of HWR.out _⟩
      by_cases h16 : 16 ≤ x
      · have hb : badAt is k = true := by unfold badAt; rw [HX.out]; simp [h16]
        have HB := Lib.hid (right_no hlt hb)
        have d0 : decide (x < 0) = false := by simpa using h0
        clear hb
        go_wp2
        go_quiet (fail)
        go_wp2
        go_ret
        exact ⟨by rw [HB.out]; rfl, drew_of HWR.out _⟩
      have d0 : decide (x < 0) = false := by simpa using h0
      have d16 : decide (16 ≤ x) = false := by simpa using h16
      by_cases hkz : k = 0
      · subst hkz
        have hc00 : wr.cell? ad = some (.int .i64 x) := hc0
        have HB : Hid (badAt is 0 = false) := Lib.hid (by unfold badAt; rw [HX.out]; simp; omega)
        go_wp2
        go_quiet (fail)
        go_wp2
        go_roundw
        case rel => exact ⟨1, by rfl, by omega, by rw [forall_lt]; exact ⟨HOK.out, HB.out⟩, drew_of HWR.out _⟩
        case measure => simp [intOf]; omega
      obtain ⟨j, hjk⟩ : ∃ j, k = j + 1 := ⟨k - 1, by omega⟩
      have HJK := Lib.hid hjk
      have hjlt : j < is.length := by omega
      obtain ⟨_, e, hc1⟩ := ints_at HSR.out j hjlt
      cases e
      have hj0 : (0 : Int) ≤ (j : Int) := by omega
      have hj1 : (j : Int) < (is.length : Int) := by omega
      have hj2 : IntKind.i64.wrap ((k : Int) - 1) = (j : Int) := by rw [IntWalk.i64_in _ (by omega)]; omega
      have hj4 : (0 : Int) < (k : Int) := by omega
      have hj5 : 0 < k := by omega
      have hj3 : decide (0 < k) = true := by simpa using hj5
      have hkj : k - 1 = j := by omega
      have HKJ := Lib.hid hkj
      clear hjk hkj
      obtain ⟨y, hy⟩ : ∃ y, is[j] = y := ⟨_, rfl⟩
      rw [hy] at hc1
      have HY : Hid (is.getD j 0 = y) := Lib.hid (by rw [getD_at hjlt, hy])
      clear hy
      by_cases hxy : x ≤ y
      · have hb : badAt is k = true := by unfold badAt; rw [HX.out, HKJ.out, HY.out]; simp [hxy]; omega
        have HB := Lib.hid (right_no hlt hb)
        clear hb
        go_wp2
        go_quiet (fail)
        go_wp2
        go_ret
        exact ⟨by rw [HB.out]; rfl, drew_of HWR.out _⟩
      have dxy : decide (x ≤ y) = false := by simpa using hxy
      have HB : Hid (badAt is k = false) := Lib.hid (by unfold badAt; rw [HX.out, HKJ.out, HY.out]; simp; omega)
      go_wp2
      go_quiet (fail)
      go_wp2
      go_roundw
      case rel => exact ⟨k + 1, by go_num, by omega, by rw [forall_lt]; exact ⟨HOK.out, HB.out⟩, drew_of HWR.out _⟩
      case measure => simp [intOf]; omega
    · obtain rfl : k = is.length := by omega
      have hki : ¬ ((is.length : Int) < (is.length : Int)) := by omega
      have HE := Lib.hid (right_end HOK.out)
      by_cases h1 : 1 ≤ is.length
      · have h1i : (1 : Int) ≤ (is.length : Int) := by omega
        by_cases h7 : is.length ≤ 7
        · have h7i : (is.length : Int) ≤ 7 := by omega
          go_wp2
          go_ret
          exact ⟨by rw [HE.out]; simp [h1, h7], HWR.out⟩
        · have h7i : ¬ (is.length : Int) ≤ 7 := by omega
          go_wp2
          go_ret
          exact ⟨by rw [HE.out]; simp [h7], HWR.out⟩
      · have h1i : ¬ (1 : Int) ≤ (is.length : Int) := by omega
        go_wp2
        go_ret
        exact ⟨by rw [HE.out]; simp [h1], HWR.out⟩
end Go.Proofs.Ytopcgnilajmnhaa
