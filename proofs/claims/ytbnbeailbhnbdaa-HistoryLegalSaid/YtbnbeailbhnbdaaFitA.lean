/-
  bytes.Equal, slices.EqualFunc of rows, lists; New.
-/
import Derived.Test.YtbnbeailbhnbdaaModC
set_option linter.unusedVariables false
set_option linter.unusedSimpArgs false
namespace Go.Proofs.Ytbnbeailbhnbdaa
open Go.RowKit

theorem new_any (w : World) : Calls Try.prog 9 #[] w fun e w' => e = .returned (.pointer (some ⟨w.heap.size, 0, none⟩)) ∧ ModAt 61 (fun b => w.heap.size ≤ b) w.heap.size 0 [] w' ∧ Below w.heap.size w w' := by
  go_enter Try.func9, Try.ntmps9
  go_wp2
  go_ret
  exact ⟨rfl, ⟨none, 0, [], heap_alloc_new w _, Nat.le_refl _, ⟨rfl, .inl ⟨rfl, rfl⟩⟩, fun b hb => by simp [Value.ownBlock] at hb, Recs.nil⟩, (Below.refl w.heap.size w).alloc (Nat.le_refl _) _⟩
theorem strB_dec (x y : List UInt8) : ((strB x).toList == (strB y).toList) = decide (x = y) := by
  rw [ByteArray.toList_eq, ByteArray.toList_eq]
  unfold strB
  simp only []
  by_cases h : x = y
  · subst h; simp
  · rw [decide_eq_false h]; simpa using h
theorem equal_any (A B : Option Addr) (x y : List UInt8) (p q c d : Nat) (w : World) (hp : x.length = p) (hq : y.length = q) (hA : Sees w A (u8s x)) (hB : Sees w B (u8s y)) :
    Calls Try.prog 51 #[.slice A p c, .slice B q d] w fun e w' => e = .returned (.bool (decide (x = y))) ∧ w = w' := by
  have q1 := run_string_sees (P := Try.prog) _ _ _ _ Try.underlying30 Try.underlying5 Try.underlying9 A p c x hp hA
  have q2 := run_string_sees (P := Try.prog) _ _ _ _ Try.underlying30 Try.underlying5 Try.underlying9 B q d y hq hB
  clear hA hB
  go_enter Try.func51, Try.ntmps51
  go_wp2
  go_ret
  exact ⟨by rw [← strB_dec]; rfl, rfl⟩
theorem rec_at {Kb : Nat → Prop} {l : List (List UInt8)} {n c i : Nat} {X : Option Addr} {W : World} (h : RecSee Kb l X n c W) (hi : i < n) :
    ∃ x A1 q a1 ad, l[i]? = some x ∧ x.length = q ∧ X = some ad ∧ W.cell? (ad.add i) = some (.slice A1 q a1) ∧ Sees W A1 (u8s x) := by
  obtain ⟨cells, h1, h2, h3, h4⟩ := h
  have hil : i < l.length := by omega
  obtain ⟨cs, _, ⟨A1, a1, rfl, ho, _⟩, hcs⟩ := h4.get (List.getElem?_eq_getElem hil)
  have hu : cells[i]? = some (.slice A1 l[i].length a1) := by simpa using hcs 0 _ rfl
  obtain ⟨ad, e, hc⟩ := h2 i _ hu
  obtain ⟨_, h5, _, h6⟩ := sees_own' ho
  exact ⟨_, A1, _, a1, ad, List.getElem?_eq_getElem hil, rfl, e, hc, h6⟩
theorem take_step {l1 l2 : List (List UInt8)} {k : Nat} {x y : List UInt8} (h : l1.take k = l2.take k) (hx : l1[k]? = some x) (hy : l2[k]? = some y) (hxy : x = y) : l1.take (k + 1) = l2.take (k + 1) := by
  rw [List.take_add_one, List.take_add_one, h, hx, hy, hxy]
set_option maxHeartbeats 2000000 in
theorem eqfunc_any {T1 T2 : Nat → Prop} {l1 l2 : List (List UInt8)} {A B : Option Addr} {n m c d : Nat} (w : World) (h1 : RecSee T1 l1 A n c w) (h2 : RecSee T2 l2 B m d w) (hn : n ≤ 140737488355328) :
    Calls Try.prog 50 #[.slice A n c, .slice B m d, .func (.func 51) #[] #[]] w fun e w' => e = .returned (.bool (decide (l1 = l2))) ∧ w = w' := by
  have e1 : l1.length = n := by obtain ⟨_, h, _⟩ := h1; exact h
  have e2 : l2.length = m := by obtain ⟨_, h, _⟩ := h2; exact h
  have H1 := Lib.hid h1
  have H2 := Lib.hid h2
  have E1 := Lib.hid e1
  have E2 := Lib.hid e2
  by_cases hnm : n = m
  · subst hnm
    have b1 : ((n : Int) != (n : Int)) = false := by simp
    clear h1 h2 e1 e2
    go_enter Try.func50, Try.ntmps50
    go_wp2_with fail
    go_loopw [17] (fun s wr => ∃ k : Nat, s = .int .i64 (k : Int) ∧ k ≤ n ∧ l1.take k = l2.take k ∧ w = wr) (fun s _ => n - (intOf s).toNat)
    case atStart => exact ⟨0, rfl, Nat.zero_le _, rfl, rfl⟩
    case round =>
      obtain ⟨k, rfl, hk, htk, rfl⟩ := hrel
      have HTK := Lib.hid htk
      clear htk
      by_cases hlt : k < n
      · have hki : (k : Int) < (n : Int) := by omega
        obtain ⟨x, A1, p, a1, ad, hx, hp, rfl, hcx, hsx⟩ := rec_at H1.out hlt
        obtain ⟨y, B1, q, b1', bd, hy, hq, rfl, hcy, hsy⟩ := rec_at H2.out hlt
        have HX := Lib.hid hx
        have HY := Lib.hid hy
        have HP := Lib.hid hp
        have HQ := Lib.hid hq
        have HSX := Lib.hid hsx
        have HSY := Lib.hid hsy
        clear hx hy hp hq hsx hsy
        by_cases hxy : x = y
        · have d1 : decide (x = y) = true := decide_eq_true hxy
          go_wp2_with (first
            | (go_at_call 51; refine (equal_any A1 B1 x y p q a1 b1' _ HP.out HQ.out HSX.out HSY.out).mono ?_; rintro e w5 ⟨rfl, rfl⟩; rw [d1])
            | fail)
          go_roundw
          case rel => exact ⟨k + 1, by go_num, hlt, take_step HTK.out HX.out HY.out hxy, by trivial⟩
          case measure => simp [intOf] <;> omega
        · have d1 : decide (x = y) = false := decide_eq_false hxy
          have hne : decide (l1 = l2) = false := decide_eq_false (fun e => hxy (by
            have h1 := HX.out
            have h2 := HY.out
            rw [e, h2] at h1
            exact (Option.some.inj h1).symm))
          go_wp2_with (first
            | (go_at_call 51; refine (equal_any A1 B1 x y p q a1 b1' _ HP.out HQ.out HSX.out HSY.out).mono ?_; rintro e w5 ⟨rfl, rfl⟩; rw [d1])
            | fail)
          go_ret
          exact ⟨by rw [hne]; rfl, rfl⟩
      · have hki : ¬ (k : Int) < (n : Int) := by omega
        have heq : decide (l1 = l2) = true := decide_eq_true (by
          have h := HTK.out
          rwa [List.take_of_length_le (by rw [E1.out]; omega), List.take_of_length_le (by rw [E2.out]; omega)] at h)
        have HEQ := Lib.hid heq
        clear heq
        go_wp2_with fail
        go_ret
        exact ⟨by rw [HEQ.out]; rfl, rfl⟩
  · have b1 : ((n : Int) != (m : Int)) = true := by simp; omega
    have b2 : (n != m) = true := by simp; omega
    have hne : decide (l1 = l2) = false := decide_eq_false (fun e => hnm (by rw [← e1, ← e2, e]))
    have HNE := Lib.hid hne
    clear h1 h2 e1 e2 hne
    go_enter Try.func50, Try.ntmps50
    go_wp2_with fail
    go_ret
    exact ⟨by rw [HNE.out]; rfl, rfl⟩
end Go.Proofs.Ytbnbeailbhnbdaa
/-
  lists.
-/
set_option linter.unusedVariables false
set_option linter.unusedSimpArgs false
namespace Go.Proofs.Ytbnbeailbhnbdaa
open Go.RowKit

theorem RecSee.below {T : Nat → Prop} {l : List (List UInt8)} {X : Option Addr} {n c : Nat} {W W' : World} (h : RecSee T l X n c W) (hb : Below W.heap.size W W') : RecSee T l X n c W' := h.keep fun b hlt _ => hb.block b hlt
set_option maxHeartbeats 2000000 in
theorem lists_any {T1 T2 : Nat → Prop} {l1 l2 : List (List UInt8)} {A B : Option Addr} {n m c d : Nat} (w : World) (h1 : RecSee T1 l1 A n c w) (h2 : RecSee T2 l2 B m d w) (hn : n ≤ 140737488355328) :
    Calls Try.prog 17 #[.slice A n c, .slice B m d] w fun e w' => e = .returned (.bool (decide (l1 = l2))) ∧ Below w.heap.size w w' := by
  have e1 : l1.length = n := by obtain ⟨_, h, _⟩ := h1; exact h
  have e2 : l2.length = m := by obtain ⟨_, h, _⟩ := h2; exact h
  have H1 := Lib.hid h1
  have H2 := Lib.hid h2
  have E1 := Lib.hid e1
  have E2 := Lib.hid e2
  by_cases hnm : n = m
  · subst hnm
    have b1 : ((n : Int) != (n : Int)) = false := by simp
    clear h1 h2 e1 e2
    go_enter Try.func17, Try.ntmps17
    go_wp2_with fail
    go_loopw [5] (fun s wr => ∃ k : Nat, s = .int .i64 (k : Int) ∧ k ≤ n ∧ l1.take k = l2.take k ∧ Below w.heap.size w wr) (fun s _ => n - (intOf s).toNat)
    case atStart => exact ⟨0, rfl, Nat.zero_le _, rfl, Below.refl _ _⟩
    case round =>
      obtain ⟨k, rfl, hk, htk, hb⟩ := hrel
      have HTK := Lib.hid htk
      have HB := Lib.hid hb
      clear htk
      by_cases hlt : k < n
      · have hki : (k : Int) < (n : Int) := by omega
        obtain ⟨x, A1, p, a1, ad, hx, hp, rfl, hcx, hsx⟩ := rec_at (H1.out.below hb) hlt
        obtain ⟨y, B1, q, b1', bd, hy, hq, rfl, hcy, hsy⟩ := rec_at (H2.out.below hb) hlt
        have d1 : wr.drew.cell? (ad.add k) = some (.slice A1 p a1) := hcx
        have d2 : wr.drew.cell? (bd.add k) = some (.slice B1 q b1') := hcy
        have q1 : ∀ nq, (convert 30 9 (.slice A1 p a1)).run Try.prog (wr.drewN nq) = .ok (.string (strB x)) (wr.drewN nq) := fun nq => run_string_sees _ _ _ _ Try.underlying30 Try.underlying5 Try.underlying9 A1 p a1 x hp (hsx.drewN nq)
        have q2 : ∀ nq, (convert 30 9 (.slice B1 q b1')).run Try.prog (wr.drewN nq) = .ok (.string (strB y)) (wr.drewN nq) := fun nq => run_string_sees _ _ _ _ Try.underlying30 Try.underlying5 Try.underlying9 B1 q b1' y hq (hsy.drewN nq)
        have HX := Lib.hid hx
        have HY := Lib.hid hy
        clear hx hy hp hq hsx hsy hb
        by_cases hxy : x = y
        · have s1 : ((strB x).toList == (strB y).toList) = true := by rw [strB_dec]; exact decide_eq_true hxy
          have s2 : ((strB x).toList != (strB y).toList) = false := by rw [bne, s1]; rfl
          go_wp2_with fail
          go_quiet (fail)
          go_wp2_with fail
          go_roundw
          case rel => exact ⟨k + 1, by go_num, hlt, take_step HTK.out HX.out HY.out hxy, below_draws HB.out nq⟩
          case measure => simp [intOf] <;> omega
        · have s1 : ((strB x).toList == (strB y).toList) = false := by rw [strB_dec]; exact decide_eq_false hxy
          have s2 : ((strB x).toList != (strB y).toList) = true := by rw [bne, s1]; rfl
          have hne : decide (l1 = l2) = false := decide_eq_false (fun e => hxy (by
            have h1 := HX.out
            have h2 := HY.out
            rw [e, h2] at h1
            exact (Option.some.inj h1).symm))
          go_wp2_with fail
          go_quiet (fail)
          go_wp2_with fail
          go_ret
          exact ⟨by rw [hne]; rfl, below_draws HB.out nq⟩
      · have hki : ¬ (k : Int) < (n : Int) := by omega
        have heq : decide (l1 = l2) = true := decide_eq_true (by
          have h := HTK.out
          rwa [List.take_of_length_le (by rw [E1.out]; omega), List.take_of_length_le (by rw [E2.out]; omega)] at h)
        have HEQ := Lib.hid heq
        clear heq
        go_wp2_with fail
        go_ret
        exact ⟨by rw [HEQ.out]; rfl, HB.out⟩
  · have b1 : ((n : Int) != (m : Int)) = true := by simp; omega
    have b2 : (n != m) = true := by simp; omega
    have hne : decide (l1 = l2) = false := decide_eq_false (fun e => hnm (by rw [← e1, ← e2, e]))
    have HNE := Lib.hid hne
    clear h1 h2 e1 e2 hne
    go_enter Try.func17, Try.ntmps17
    go_wp2_with fail
    go_ret
    exact ⟨by rw [HNE.out]; rfl, Below.refl _ _⟩
end Go.Proofs.Ytbnbeailbhnbdaa
