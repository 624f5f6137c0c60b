/-
  Lists of servers that may be (out of layer 11).
-/
import Derived.Test.YtoongmoajnedlaaGreatProg
import Derived.Test.YtoongmoajnedlaaGreatRowK
import Derived.Test.YtoongmoajnedlaaGreatStep
import Derived.Test.YtoongmoajnedlaaGreatRet
import Derived.Test.YtoongmoajnedlaaGreatOut
set_option linter.unusedVariables false
set_option linter.unusedSimpArgs false
set_option maxRecDepth 100000
namespace Go.Proofs.YtoongmoajnedlaaGreat.C
open Go.RowKit

/-- The ith stands where it may not. -/
def badAt (l : List Int) (i : Nat) : Bool := decide (l.getD i 0 < 0) || (decide (16 ≤ l.getD i 0) || (decide (0 < i) && decide (l.getD i 0 ≤ l.getD (i - 1) 0)))
def rightB (l : List Int) : Bool := (List.range l.length).all (fun i => !badAt l i) && (decide (1 ≤ l.length) && decide (l.length ≤ 7))
theorem ints_at {w : World} {A : Option Addr} {is : List Int} (h : Sees w A (is.map i64v)) (k : Nat) (hk : k < is.length) : ∃ ad, A = some ad ∧ w.cell? (ad.add k) = some (.int .i64 is[k]) := by
  exact h k _ (by simp [i64v, hk])
theorem drew_of {w wr : World} (h : ∃ n, wr = w.drewN n) (m : Nat) : ∃ n, wr.drewN m = w.drewN n := by
  obtain ⟨n, rfl⟩ := h
  exact ⟨_, by rw [World.drewN_drewN]⟩
theorem sees_drew {w wr : World} {A : Option Addr} {vs : List Value} (h : Sees w A vs) (hd : ∃ n, wr = w.drewN n) : Sees wr A vs := by
  obtain ⟨n, rfl⟩ := hd
  exact h.drewN n
theorem right_no {l : List Int} {i : Nat} (hi : i < l.length) (h : badAt l i = true) : rightB l = false := by
  unfold rightB
  rw [Bool.and_eq_false_iff]
  left
  rw [List.all_eq_false]
  exact ⟨i, by simpa using hi, by simp [h]⟩
theorem right_end {l : List Int} (h : ∀ i, i < l.length → badAt l i = false) : rightB l = (decide (1 ≤ l.length) && decide (l.length ≤ 7)) := by
  unfold rightB
  have : (List.range l.length).all (fun i => !badAt l i) = true := by
    rw [List.all_eq_true]
    intro i hi
    simp [h i (by simpa using hi)]
  rw [this, Bool.true_and]
theorem getD_at {l : List Int} {k : Nat} (hk : k < l.length) : l.getD k 0 = l[k] := by simp [List.getD_eq_getElem?_getD, hk]
theorem forall_lt {p : Nat → Prop} {k : Nat} : (∀ i, i < k + 1 → p i) ↔ (∀ i, i < k → p i) ∧ p k :=
  ⟨fun h => ⟨fun i hi => h i (by omega), h k (by omega)⟩, fun h i hi => by
    by_cases e : i = k
    · exact e ▸ h.2
    · exact h.1 i (by omega)⟩
set_option maxHeartbeats 1000000 in
theorem right_any (A : Option Addr) (is : List Int) (c : Nat) (w : World) (hc : is.length ≤ c) (hl : is.length ≤ 140737488355328) (h : Sees w A (is.map i64v)) :
    Calls Tryz.prog 133 #[.slice A is.length c] w (RetQuiet w (.bool (rightB is))) := by
  have H := Lib.hid h
  clear h
  go_enter Tryz.func133, Tryz.ntmps133
  go_wp2
  go_loopw [6] (fun s6 wr => ∃ k : Nat, s6 = .int .i64 (k : Int) ∧ k ≤ is.length ∧ (∀ i, i < k → badAt is i = false) ∧ ∃ n, wr = w.drewN n) (fun s6 _ => is.length - (intOf s6).toNat)
  case atStart => exact ⟨0, rfl, Nat.zero_le _, fun i hi => by omega, 0, rfl⟩
  case round =>
    obtain ⟨k, rfl, hk, hok, hwr⟩ := hrel
    have HOK := Lib.hid hok
    have HSR := Lib.hid (sees_drew H.out hwr)
    have HWR := Lib.hid hwr
    clear hok hwr
    by_cases hlt : k < is.length
    · obtain ⟨ad, rfl, hc0⟩ := ints_at HSR.out k hlt
      have hki : (k : Int) < (is.length : Int) := by omega
      have hk0 : (0 : Int) ≤ (k : Int) := by omega
      obtain ⟨x, hx⟩ : ∃ x, is[k] = x := ⟨_, rfl⟩
      rw [hx] at hc0
      have HX : Hid (is.getD k 0 = x) := Lib.hid (by rw [getD_at hlt, hx])
      clear hx
      by_cases h0 : x < 0
      · have hb : badAt is k = true := by unfold badAt; rw [HX.out]; simp [h0]
        have HB := Lib.hid (right_no hlt hb)
        clear hb
        go_wp2
        go_quiet (fail)
        go_wp2
        go_ret
        exact ⟨by rw [HB.out]; rfl, drew_of HWR.out _⟩
      by_cases h16 : 16 ≤ x
      · have hb : badAt is k = true := by unfold badAt; rw [HX.out]; simp [h16]
        have HB := Lib.hid (right_no hlt hb)
        have d0 : decide (x < 0) = false := by simpa using h0
        clear hb
        go_wp2
        go_quiet (fail)
        go_wp2
        go_ret
        exact ⟨by rw [HB.out]; rfl, drew_of HWR.out _⟩
      have d0 : decide (x < 0) = false := by simpa using h0
      have d16 : decide (16 ≤ x) = false := by simpa using h16
      by_cases hkz : k = 0
      · subst hkz
        have hc00 : wr.cell? ad = some (.int .i64 x) := hc0
        have HB : Hid (badAt is 0 = false) := Lib.hid (by unfold badAt; rw [HX.out]; simp; omega)
        go_wp2
        go_quiet (fail)
        go_wp2
        go_roundw
        case rel => exact ⟨1, by rfl, by omega, by rw [forall_lt]; exact ⟨HOK.out, HB.out⟩, drew_of HWR.out _⟩
        case measure => simp [intOf]; omega
      obtain ⟨j, hjk⟩ : ∃ j, k = j + 1 := ⟨k - 1, by omega⟩
      have HJK := Lib.hid hjk
      have hjlt : j < is.length := by omega
      obtain ⟨_, e, hc1⟩ := ints_at HSR.out j hjlt
      cases e
      have hj0 : (0 : Int) ≤ (j : Int) := by omega
      have hj1 : (j : Int) < (is.length : Int) := by omega
      have hj2 : IntKind.i64.wrap ((k : Int) - 1) = (j : Int) := by rw [IntWalk.i64_in _ (by omega)]; omega
      have hj4 : (0 : Int) < (k : Int) := by omega
      have hj5 : 0 < k := by omega
      have hj3 : decide (0 < k) = true := by simpa using hj5
      have hkj : k - 1 = j := by omega
      have HKJ := Lib.hid hkj
      clear hjk hkj
      obtain ⟨y, hy⟩ : ∃ y, is[j] = y := ⟨_, rfl⟩
      rw [hy] at hc1
      have HY : Hid (is.getD j 0 = y) := Lib.hid (by rw [getD_at hjlt, hy])
      clear hy
      by_cases hxy : x ≤ y
      · have hb : badAt is k = true := by unfold badAt; rw [HX.out, HKJ.out, HY.out]; simp [hxy]; omega
        have HB := Lib.hid (right_no hlt hb)
        clear hb
        go_wp2
        go_quiet (fail)
        go_wp2
        go_ret
        exact ⟨by rw [HB.out]; rfl, drew_of HWR.out _⟩
      have dxy : decide (x ≤ y) = false := by simpa using hxy
      have HB : Hid (badAt is k = false) := Lib.hid (by unfold badAt; rw [HX.out, HKJ.out, HY.out]; simp; omega)
      go_wp2
      go_quiet (fail)
      go_wp2
      go_roundw
      case rel => exact ⟨k + 1, by go_num, by omega, by rw [forall_lt]; exact ⟨HOK.out, HB.out⟩, drew_of HWR.out _⟩
      case measure => simp [intOf]; omega
    · obtain rfl : k = is.length := by omega
      have hki : ¬ ((is.length : Int) < (is.length : Int)) := by omega
      have HE := Lib.hid (right_end HOK.out)
      by_cases h1 : 1 ≤ is.length
      · have h1i : (1 : Int) ≤ (is.length : Int) := by omega
        by_cases h7 : is.length ≤ 7
        · have h7i : (is.length : Int) ≤ 7 := by omega
          go_wp2
          go_ret
          exact ⟨by rw [HE.out]; simp [h1, h7], HWR.out⟩
        · have h7i : ¬ (is.length : Int) ≤ 7 := by omega
          go_wp2
          go_ret
          exact ⟨by rw [HE.out]; simp [h7], HWR.out⟩
      · have h1i : ¬ (1 : Int) ≤ (is.length : Int) := by omega
        go_wp2
        go_ret
        exact ⟨by rw [HE.out]; simp [h1], HWR.out⟩
end Go.Proofs.YtoongmoajnedlaaGreat.C
/-
  Has (out of layer 11).
-/
set_option linter.unusedVariables false
set_option linter.unusedSimpArgs false
set_option maxRecDepth 100000
namespace Go.Proofs.YtoongmoajnedlaaGreat.C
open Go.RowKit

def hasB (l : List Int) (x : Int) : Bool := l.any (fun i => i == x)
theorem hasB_take {l : List Int} {x : Int} {k : Nat} (hk : k < l.length) : hasB (l.take (k + 1)) x = (hasB (l.take k) x || l[k] == x) := by
  unfold hasB
  rw [List.take_succ_eq_append_getElem hk, List.any_append]
  simp
theorem hasB_yes {l : List Int} {x : Int} {k : Nat} (hk : k < l.length) (h : l[k] = x) : hasB l x = true := List.any_eq_true.2 ⟨l[k], List.getElem_mem hk, by simp [h]⟩
/-- The index is told. -/
def RetIndex (w : World) (b : Bool) (e : Ending) (w' : World) : Prop := ∃ r : Int, e = .returned (.int .i64 r) ∧ decide (0 ≤ r) = b ∧ w = w'
theorem index_any (A : Option Addr) (is : List Int) (c : Nat) (x : Int) (w : World) (hc : is.length ≤ c) (hl : is.length ≤ 140737488355328) (h : Sees w A (is.map i64v)) :
    Calls Tryz.prog 162 #[.slice A is.length c, .int .i64 x] w (RetIndex w (hasB is x)) := by
  have H := Lib.hid h
  clear h
  go_enter Tryz.func162, Tryz.ntmps162
  go_wp2
  go_loop [8] (fun s => ∃ k : Nat, s = .int .i64 (k : Int) ∧ k ≤ is.length ∧ hasB (is.take k) x = false) (fun s => is.length - (intOf s).toNat)
  case atStart => exact ⟨0, rfl, Nat.zero_le _, rfl⟩
  case round =>
    obtain ⟨k, rfl, hk, hno⟩ := hrel
    have HNO := Lib.hid hno
    clear hno
    by_cases hlt : k < is.length
    · obtain ⟨ad, rfl, hcell⟩ := ints_at H.out k hlt
      have hki : (k : Int) < (is.length : Int) := by omega
      have HT := Lib.hid (hasB_take (x := x) hlt)
      by_cases hx : is[k] = x
      · have hb1 : (x == is[k]) = true := by simp [hx]
        have HY := Lib.hid (hasB_yes hlt hx)
        have HX := Lib.hid hx
        clear hx
        go_wp2
        go_ret
        exact ⟨_, rfl, by rw [HY.out]; simp, rfl⟩
      · have hb1 : (x == is[k]) = false := by simp [Ne.symm hx]
        have HX := Lib.hid hx
        clear hx
        go_wp2
        go_round
        case rel => exact ⟨k + 1, by go_num, by omega, by rw [HT.out, HNO.out]; simp [HX.out]⟩
        case measure => simp [intOf]; omega
    · obtain rfl : k = is.length := by omega
      have hki : ¬ ((is.length : Int) < (is.length : Int)) := by omega
      go_wp2
      go_ret
      refine ⟨_, rfl, ?_, rfl⟩
      have := HNO.out
      rw [List.take_length] at this
      rw [this]
      rfl
theorem contains_any (A : Option Addr) (is : List Int) (c : Nat) (x : Int) (w : World) (hc : is.length ≤ c) (hl : is.length ≤ 140737488355328) (h : Sees w A (is.map i64v)) :
    Calls Tryz.prog 123 #[.slice A is.length c, .int .i64 x] w fun e w' => e = .returned (.bool (hasB is x)) ∧ w = w' := by
  have H := Lib.hid h
  clear h
  go_enter Tryz.func123, Tryz.ntmps123
  go_wp2_with (first
    | (go_at_call 162; refine (index_any A is c x _ hc hl H.out).mono ?_; rintro e w' ⟨r, rfl, hr, rfl⟩)
    | fail)
  go_ret
  exact ⟨rfl, rfl⟩
theorem has_any (A : Option Addr) (is : List Int) (c : Nat) (x : Int) (w : World) (hc : is.length ≤ c) (hl : is.length ≤ 140737488355328) (h : Sees w A (is.map i64v)) :
    Calls Tryz.prog 56 #[.slice A is.length c, .int .i64 x] w fun e w' => e = .returned (.bool (hasB is x)) ∧ w = w' := by
  have H := Lib.hid h
  clear h
  go_enter Tryz.func56, Tryz.ntmps56
  go_wp2_with (first
    | (go_at_call 123; refine (contains_any A is c x _ hc hl H.out).mono ?_; rintro e w' ⟨rfl, rfl⟩)
    | fail)
  go_ret
  exact ⟨rfl, rfl⟩
end Go.Proofs.YtoongmoajnedlaaGreat.C
/-
  A copy of a list of numbers (out of layer 11).
-/
set_option linter.unusedVariables false
set_option linter.unusedSimpArgs false
set_option maxRecDepth 100000
namespace Go.Proofs.YtoongmoajnedlaaGreat.C
open Go.RowKit

theorem infoInt : (Tryz.prog.info? 3).map (fun i => (i.zero, i.size, i.bytes)) = some (some (.int .i64 0), 1, 8) := by kernel_rfl
theorem ints_one (is : List Int) : ∀ u ∈ is.map i64v, u.oneCell' = true := by
  intro u hu
  obtain ⟨b, _, rfl⟩ := List.mem_map.1 hu
  rfl
/-- What is handed back is a row of the call's own. -/
def RetInts (w : World) (n : Nat) (xs : List Int) (e : Ending) (w' : World) : Prop :=
  ∃ A c, e = .returned (.slice A n c) ∧ w'.ownsRow w.heap.size 3 1 (.slice A n c) n (xs.map i64v) ∧ Below w.heap.size w w'
set_option maxHeartbeats 400000 in
theorem clone_ints (A : Option Addr) (is : List Int) (c : Nat) (w : World) (hc : is.length ≤ c) (hl : is.length * 8 ≤ 140737488355328) (h : Sees w A (is.map i64v)) :
    Calls Tryz.prog 86 #[.slice A is.length c] w (RetInts w is.length is) := by
  have hq := fun (w : World) (a : Option Addr) (n c : Nat) => Lib.run_eql_slice_nil (P := Tryz.prog) w 23 3 a n c 0 0 Tryz.underlying23
  have H := Lib.hid h
  clear h
  go_enter Tryz.func86, Tryz.ntmps86
  cases A with
  | none =>
    obtain rfl : is = [] := by
      rcases is with _ | ⟨u, l⟩
      · rfl
      · obtain ⟨_, e, _⟩ := H.out 0 _ rfl
        cases e
    go_wp2
    go_ret
    exact ⟨none, 0, rfl, ⟨rfl, .inl ⟨rfl, rfl⟩⟩, Below.refl _ _⟩
  | some ad =>
    have hn : (some ad).isNone = false := rfl
    have p1 := own_made0 w 3 1
    have p2 := H.out.below ((Below.refl w.heap.size w).alloc (Nat.le_refl _) (.cells #[] 3))
    go_wp2_with (at_builtin; refine wpList_append_sees rfl (.tmp 5) (.tmp 6) 23 rfl w.heap.size 3 (.int .i64 0) 1 8 Tryz.underlying23 infoInt rfl (by decide) (.slice (some ⟨w.heap.size, 0, none⟩) 0 0) 0 [] rfl p1 (some ad) is.length c (is.map i64v) rfl (by simp) p2 (ints_one _) (by simp only [maxLen]; omega) (by omega) (by simp) ?_; intro A' c' w' hown hg hat)
    go_wp2
    go_ret
    refine ⟨A', c', by simp, by simpa using hown, ?_⟩
    exact below_grown_own ((Below.refl _ w).alloc (Nat.le_refl _) _) (by simp) p1 (Nat.le_refl _) hg
end Go.Proofs.YtoongmoajnedlaaGreat.C
