/-
  Layer 11: Has, Quorum, Ints, same.
-/
import Derived.Test.YtopcgnilajmnhaaConf1
set_option linter.unusedVariables false
set_option linter.unusedSimpArgs false
namespace Go.Proofs.Ytopcgnilajmnhaa
open Go.RowKit

def hasB (l : List Int) (x : Int) : Bool := l.any (fun i => i == x)
theorem hasB_take {l : List Int} {x : Int} {k : Nat} (hk : k < l.length) : hasB (l.take (k + 1)) x = (hasB (l.take k) x || l[k] == x) := by
  unfold hasB
  rw [List.take_succ_eq_append_getElem hk, List.any_append]
  simp
theorem hasB_yes {l : List Int} {x : Int} {k : Nat} (hk : k < l.length) (h : l[k] = x) : hasB l x = true := List.any_eq_true.2 ⟨l[k], List.getElem_mem hk, by simp [h]⟩
/-- The index is told. -/
def RetIndex (w : World) (b : Bool) (e : Ending) (w' : World) : Prop := ∃ r : Int, e = .returned (.int .i64 r) ∧ decide (0 ≤ r) = b ∧ w = w'
theorem index_any (A : Option Addr) (is : List Int) (c : Nat) (x : Int) (w : World) (hc : is.length ≤ c) (hl : is.length ≤ 140737488355328) (h : Sees w A (is.map i64v)) :
    Calls Try.prog 38 #[.slice A is.length c, .int .i64 x] w (RetIndex w (hasB is x)) := by
  have H := Lib.hid h
  clear h
  go_enter Try.func38, Try.ntmps38
  go_wp2
  go_loop [8] (fun s => ∃ k : Nat, s = .int .i64 (k : Int) ∧ k ≤ is.length ∧ hasB (is.take k) x = false) (fun s => is.length - (intOf s).toNat)
  case atStart => exact ⟨0, rfl, Nat.zero_le _, rfl⟩
  case round =>
    obtain ⟨k, rfl, hk, hno⟩ := hrel
    have HNO := Lib.hid hno
    clear hno
    by_cases hlt : k < is.length
    · obtain ⟨ad, rfl, hcell⟩ := ints_at H.out k hlt
      have hki : (k : Int) < (is.length : Int) := by omega
      have HT := Lib.hid (hasB_take (x := x) hlt)
      by_cases hx : is[k] = x
      · have hb1 : (x == is[k]) = true := by simp [hx]
        have HY := Lib.hid (hasB_yes hlt hx)
        have HX := Lib.hid hx
        clear hx
        go_wp2
        go_ret
        exact ⟨_, rfl, by rw [HY.out]; simp, rfl⟩
      · have hb1 : (x == is[k]) = false := by simp [Ne.symm hx]
        have HX := Lib.hid hx
        clear hx
        go_wp2
        go_round
        case rel => exact ⟨k + 1, by go_num, by omega, by rw [HT.out, HNO.out]; simp [HX.out]⟩
        case measure => simp [intOf]; omega
    · obtain rfl : k = is.length := by omega
      have hki : ¬ ((is.length : Int) < (is.length : Int)) := by omega
      go_wp2
      go_ret
      refine ⟨_, rfl, ?_, rfl⟩
      have := HNO.out
      rw [List.take_length] at this
      rw [this]
      rfl
theorem contains_any (A : Option Addr) (is : List Int) (c : Nat) (x : Int) (w : World) (hc : is.length ≤ c) (hl : is.length ≤ 140737488355328) (h : Sees w A (is.map i64v)) :
    Calls Try.prog 30 #[.slice A is.length c, .int .i64 x] w fun e w' => e = .returned (.bool (hasB is x)) ∧ w = w' := by
  have H := Lib.hid h
  clear h
  go_enter Try.func30, Try.ntmps30
  go_wp2_with (first
    | (go_at_call 38; refine (index_any A is c x _ hc hl H.out).mono ?_; rintro e w' ⟨r, rfl, hr, rfl⟩)
    | fail)
  go_ret
  exact ⟨rfl, rfl⟩
theorem has_any (A : Option Addr) (is : List Int) (c : Nat) (x : Int) (w : World) (hc : is.length ≤ c) (hl : is.length ≤ 140737488355328) (h : Sees w A (is.map i64v)) :
    Calls Try.prog 18 #[.slice A is.length c, .int .i64 x] w fun e w' => e = .returned (.bool (hasB is x)) ∧ w = w' := by
  have H := Lib.hid h
  clear h
  go_enter Try.func18, Try.ntmps18
  go_wp2_with (first
    | (go_at_call 30; refine (contains_any A is c x _ hc hl H.out).mono ?_; rintro e w' ⟨rfl, rfl⟩)
    | fail)
  go_ret
  exact ⟨rfl, rfl⟩
theorem refhas_any (A : Option Addr) (is : List Int) (c : Nat) (x : Int) (w : World) (hc : is.length ≤ c) (hl : is.length ≤ 140737488355328) (h : Sees w A (is.map i64v)) :
    Calls Try.prog 19 #[.slice A is.length c, .int .i64 x] w fun e w' => e = .returned (.bool (hasB is x)) ∧ w = w' := by
  have H := Lib.hid h
  clear h
  go_enter Try.func19, Try.ntmps19
  go_wp2
  go_loop [5] (fun s => ∃ k : Nat, s = .int .i64 (k : Int) ∧ k ≤ is.length ∧ hasB (is.take k) x = false) (fun s => is.length - (intOf s).toNat)
  case atStart => exact ⟨0, rfl, Nat.zero_le _, rfl⟩
  case round =>
    obtain ⟨k, rfl, hk, hno⟩ := hrel
    have HNO := Lib.hid hno
    clear hno
    by_cases hlt : k < is.length
    · obtain ⟨ad, rfl, hcell⟩ := ints_at H.out k hlt
      have hki : (k : Int) < (is.length : Int) := by omega
      have HT := Lib.hid (hasB_take (x := x) hlt)
      by_cases hx : is[k] = x
      · have hb1 : (is[k] == x) = true := by simp [hx]
        have HY := Lib.hid (hasB_yes hlt hx)
        clear hx
        go_wp2
        go_ret
        exact ⟨by rw [HY.out]; rfl, rfl⟩
      · have hb1 : (is[k] == x) = false := by simp [hx]
        have HX := Lib.hid hx
        clear hx
        go_wp2
        go_round
        case rel => exact ⟨k + 1, by go_num, by omega, by rw [HT.out, HNO.out]; simp [HX.out]⟩
        case measure => simp [intOf]; omega
    · obtain rfl : k = is.length := by omega
      have hki : ¬ ((is.length : Int) < (is.length : Int)) := by omega
      go_wp2
      go_ret
      refine ⟨?_, rfl⟩
      have := HNO.out
      rw [List.take_length] at this
      rw [this]
      rfl
def quorumN (n : Nat) : Int := ((n / 2 + 1 : Nat) : Int)
theorem quorum_any (A : Option Addr) (n c : Nat) (w : World) (hl : n ≤ 140737488355328) : Calls Try.prog 20 #[.slice A n c] w fun e w' => e = .returned (.int .i64 (quorumN n)) ∧ w = w' := by
  go_enter Try.func20, Try.ntmps20
  go_wp2
  go_ret
  exact ⟨by unfold quorumN; simp, rfl⟩
theorem refquorum_any (A : Option Addr) (n c : Nat) (w : World) (hl : n ≤ 140737488355328) : Calls Try.prog 21 #[.slice A n c] w fun e w' => e = .returned (.int .i64 (quorumN n)) ∧ w = w' := by
  go_enter Try.func21, Try.ntmps21
  go_wp2
  go_ret
  exact ⟨by unfold quorumN; simp, rfl⟩
theorem refright11_any (A : Option Addr) (is : List Int) (c : Nat) (w : World) (hc : is.length ≤ c) (hl : is.length ≤ 140737488355328) (h : Sees w A (is.map i64v)) :
    Calls Try.prog 17 #[.slice A is.length c] w (RetQuiet w (.bool (rightB is))) := by
  have H := Lib.hid h
  clear h
  go_enter Try.func17, Try.ntmps17
  go_wp2_with (first
    | (go_at_call 29; refine (refright_any A is c _ hc hl H.out).mono ?_; rintro e w' ⟨rfl, hw⟩)
    | fail)
  go_ret
  exact ⟨rfl, hw⟩
theorem num_any (v : Value) (w : World) : Calls Try.prog 24 #[v] w fun e w' => e = .returned v ∧ w = w' := by
  go_enter Try.func24, Try.ntmps24
  go_wp2
  go_ret
  exact ⟨rfl, rfl⟩
def sameB (a b : List Int) : Bool := decide (a = b)
theorem same_end {a b : List Int} (hn : a.length = b.length) (h : ∀ i, i < a.length → a.getD i 0 = b.getD i 0) : sameB a b = true := by
  unfold sameB
  rw [decide_eq_true_eq]
  refine List.ext_getElem hn fun i h1 h2 => ?_
  have := h i h1
  rwa [getD_at h1, getD_at h2] at this
theorem same_no {a b : List Int} {i : Nat} (h1 : i < a.length) (h2 : i < b.length) (h : a[i] ≠ b[i]) : sameB a b = false := by
  unfold sameB
  rw [decide_eq_false_iff_not]
  rintro rfl
  exact h rfl
theorem same_len {a b : List Int} (h : a.length ≠ b.length) : sameB a b = false := by
  unfold sameB
  rw [decide_eq_false_iff_not]
  rintro rfl
  exact h rfl
--SAME
set_option maxHeartbeats 1000000 in
theorem ints_any (A B : Option Addr) (is js : List Int) (c d : Nat) (w : World) (hc : is.length ≤ c) (hd : js.length ≤ d) (hl : is.length ≤ 140737488355328) (hl2 : js.length ≤ 140737488355328) (hA : Sees w A (is.map i64v)) (hB : Sees w B (js.map i64v)) :
    Calls Try.prog 15 #[.slice A is.length c, .slice B js.length d] w (RetQuiet w (.bool (sameB is js))) := by
  have HA := Lib.hid hA
  have HB := Lib.hid hB
  clear hA hB
  by_cases hn : is.length = js.length
  · have hn0 : ((is.length : Int) != (js.length : Int)) = false := by simp [hn]
    have HN := Lib.hid hn
    clear hn
    go_enter Try.func15, Try.ntmps15
    go_wp2
    go_loopw [5] (fun s wr => ∃ k : Nat, s = .int .i64 (k : Int) ∧ k ≤ is.length ∧ (∀ i, i < k → is.getD i 0 = js.getD i 0) ∧ ∃ n, wr = w.drewN n) (fun s _ => is.length - (intOf s).toNat)
    case atStart => exact ⟨0, rfl, Nat.zero_le _, fun i hi => by omega, 0, rfl⟩
    case round =>
      obtain ⟨k, rfl, hk, hok, hwr⟩ := hrel
      have HOK := Lib.hid hok
      have HRA := Lib.hid (sees_drew HA.out hwr)
      have HRB := Lib.hid (sees_drew HB.out hwr)
      have HWR := Lib.hid hwr
      clear hok hwr
      by_cases hlt : k < is.length
      · have hlt2 : k < js.length := by have := HN.out; omega
        obtain ⟨ad, rfl, hca⟩ := ints_at HRA.out k hlt
        obtain ⟨bd, rfl, hcb⟩ := ints_at HRB.out k hlt2
        have hki : (k : Int) < (is.length : Int) := by omega
        have hkj : (k : Int) < (js.length : Int) := by omega
        have hk0 : (0 : Int) ≤ (k : Int) := by omega
        obtain ⟨x, hx⟩ : ∃ x, is[k] = x := ⟨_, rfl⟩
        obtain ⟨y, hy⟩ : ∃ y, js[k] = y := ⟨_, rfl⟩
        rw [hx] at hca
        rw [hy] at hcb
        have HX := Lib.hid hx
        have HY := Lib.hid hy
        clear hx hy
        by_cases hxy : x = y
        · have HD : Hid (is.getD k 0 = js.getD k 0) := Lib.hid (by rw [getD_at hlt, getD_at hlt2, HX.out, HY.out, hxy])
          have hb : (x != y) = false := by simp [hxy]
          have HXY := Lib.hid hxy
          clear hxy
          go_wp2
          go_quiet (fail)
          go_wp2
          go_roundw
          case rel => exact ⟨k + 1, by go_num, by omega, by rw [forall_lt]; exact ⟨HOK.out, HD.out⟩, drew_of HWR.out _⟩
          case measure => simp [intOf]; omega
        · have HE := Lib.hid (same_no hlt hlt2 (by rw [HX.out, HY.out]; exact hxy))
          have hb : (x != y) = true := by simp [hxy]
          clear hxy
          go_wp2
          go_quiet (fail)
          go_wp2
          go_ret
          exact ⟨by rw [HE.out]; rfl, drew_of HWR.out _⟩
      · obtain rfl : k = is.length := by omega
        have hki : ¬ ((is.length : Int) < (is.length : Int)) := by omega
        have HE := Lib.hid (same_end HN.out HOK.out)
        go_wp2
        go_ret
        exact ⟨by rw [HE.out]; rfl, HWR.out⟩
  · have hn0 : ((is.length : Int) != (js.length : Int)) = true := by simp; omega
    have HE := Lib.hid (same_len hn)
    go_enter Try.func15, Try.ntmps15
    go_wp2
    go_ret
    exact ⟨by rw [HE.out]; rfl, 0, rfl⟩
set_option maxHeartbeats 1000000 in
theorem refsame_any (A B : Option Addr) (is js : List Int) (c d : Nat) (w : World) (hc : is.length ≤ c) (hd : js.length ≤ d) (hl : is.length ≤ 140737488355328) (hl2 : js.length ≤ 140737488355328) (hA : Sees w A (is.map i64v)) (hB : Sees w B (js.map i64v)) :
    Calls Try.prog 27 #[.slice A is.length c, .slice B js.length d] w (RetQuiet w (.bool (sameB is js))) := by
  have HA := Lib.hid hA
  have HB := Lib.hid hB
  clear hA hB
  by_cases hn : is.length = js.length
  · have hn0 : ((is.length : Int) != (js.length : Int)) = false := by simp [hn]
    have HN := Lib.hid hn
    clear hn
    go_enter Try.func27, Try.ntmps27
    go_wp2
    go_loopw [5] (fun s wr => ∃ k : Nat, s = .int .i64 (k : Int) ∧ k ≤ is.length ∧ (∀ i, i < k → is.getD i 0 = js.getD i 0) ∧ ∃ n, wr = w.drewN n) (fun s _ => is.length - (intOf s).toNat)
    case atStart => exact ⟨0, rfl, Nat.zero_le _, fun i hi => by omega, 0, rfl⟩
    case round =>
      obtain ⟨k, rfl, hk, hok, hwr⟩ := hrel
      have HOK := Lib.hid hok
      have HRA := Lib.hid (sees_drew HA.out hwr)
      have HRB := Lib.hid (sees_drew HB.out hwr)
      have HWR := Lib.hid hwr
      clear hok hwr
      by_cases hlt : k < is.length
      · have hlt2 : k < js.length := by have := HN.out; omega
        obtain ⟨ad, rfl, hca⟩ := ints_at HRA.out k hlt
        obtain ⟨bd, rfl, hcb⟩ := ints_at HRB.out k hlt2
        have hki : (k : Int) < (is.length : Int) := by omega
        have hkj : (k : Int) < (js.length : Int) := by omega
        have hk0 : (0 : Int) ≤ (k : Int) := by omega
        obtain ⟨x, hx⟩ : ∃ x, is[k] = x := ⟨_, rfl⟩
        obtain ⟨y, hy⟩ : ∃ y, js[k] = y := ⟨_, rfl⟩
        rw [hx] at hca
        rw [hy] at hcb
        have HX := Lib.hid hx
        have HY := Lib.hid hy
        clear hx hy
        by_cases hxy : x = y
        · have HD : Hid (is.getD k 0 = js.getD k 0) := Lib.hid (by rw [getD_at hlt, getD_at hlt2, HX.out, HY.out, hxy])
          have hb : (x != y) = false := by simp [hxy]
          have HXY := Lib.hid hxy
          clear hxy
          go_wp2
          go_quiet (fail)
          go_wp2
          go_roundw
          case rel => exact ⟨k + 1, by go_num, by omega, by rw [forall_lt]; exact ⟨HOK.out, HD.out⟩, drew_of HWR.out _⟩
          case measure => simp [intOf]; omega
        · have HE := Lib.hid (same_no hlt hlt2 (by rw [HX.out, HY.out]; exact hxy))
          have hb : (x != y) = true := by simp [hxy]
          clear hxy
          go_wp2
          go_quiet (fail)
          go_wp2
          go_ret
          exact ⟨by rw [HE.out]; rfl, drew_of HWR.out _⟩
      · obtain rfl : k = is.length := by omega
        have hki : ¬ ((is.length : Int) < (is.length : Int)) := by omega
        have HE := Lib.hid (same_end HN.out HOK.out)
        go_wp2
        go_ret
        exact ⟨by rw [HE.out]; rfl, HWR.out⟩
  · have hn0 : ((is.length : Int) != (js.length : Int)) = true := by simp; omega
    have HE := Lib.hid (same_len hn)
    go_enter Try.func27, Try.ntmps27
    go_wp2
    go_ret
    exact ⟨by rw [HE.out]; rfl, 0, rfl⟩
end Go.Proofs.Ytopcgnilajmnhaa
