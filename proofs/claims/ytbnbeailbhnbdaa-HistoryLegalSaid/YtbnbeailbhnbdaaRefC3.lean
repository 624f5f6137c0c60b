/-
  The reference's fits: gets.
-/
import Derived.Test.YtbnbeailbhnbdaaRefC2
set_option linter.unusedVariables false
set_option linter.unusedSimpArgs false
namespace Go.Proofs.Ytbnbeailbhnbdaa
open Go.RowKit

theorem see_any {w' : World} {xs : List (List UInt8)} {A : Option Addr} {m c : Nat} {cells : List Value} {T : Nat → Prop} {base : Nat} (hm : m = xs.length) (ho : w'.ownsRow base 30 1 (.slice A m c) m cells) (hr : Recs (byRow T) 1 w' xs cells) : RecSee (fun _ => True) xs A m c w' :=
  ⟨cells, hm.symm, (sees_own' ho).2.2.2, fun _ _ => trivial, hr.imp fun j x cs _ hR => by
    obtain ⟨A', c', e, ho', _⟩ := hR
    exact ⟨A', c', e, ho', fun _ _ => trivial⟩⟩
set_option maxHeartbeats 8000000 in
theorem reffits_get {S : Nat → Prop} {g first : Nat} {l : List (List UInt8)} (c : CV) (data : List UInt8) (recs : List (List UInt8)) (w : World) (h : ModAt 28 S g first l w) (hf : first ≤ 140737488355328) (hl : l.length ≤ 4398046511104) (hlen : ∀ x ∈ l, x.length ≤ 140737488355328) (hc : CallFar c data recs w) (hk : c.kind ≠ 1) (hk3 : c.kind ≠ 3) :
    Calls Try.prog 35 #[.pointer (some ⟨g, 0, none⟩), c.val] w (RetFitR S g (fitOK c recs first l || !c.ans) (fitF c first l) (fitL c data first l) w) := by
  obtain ⟨D, dc, R, nr, rc, T, e1, e2, e3, hs, hr⟩ := hc
  obtain ⟨c1, c2, c3, c4, c5, c6, c7, c8, c9, c10, c11, c12⟩ := c
  dsimp only at hk hk3 e1 e2
  subst e1 e2
  unfold CV.val CV.cells fitOK fitF fitL
  dsimp only
  rw [if_neg hk, if_neg hk3, if_neg hk3, if_neg hk, if_neg hk3]
  have b1 : (c4 == 1) = false := by simpa using hk
  have b3 : (c4 == 3) = false := by simpa using hk3
  have hal : Below w.heap.size w (w.alloc (.cells #[.int .i64 c1, .int .i64 c2, .int .i64 c3, .int .i64 c4, .int .i64 c5, .bool c6, .int .i64 c7, .int .i64 c8, .int .i64 c9, .int .i64 c10, .slice D data.length dc, .slice R nr rc] 50)) := (Below.refl w.heap.size w).alloc (Nat.le_refl _) _
  obtain ⟨W, hW⟩ : ∃ W, (w.alloc (.cells #[.int .i64 c1, .int .i64 c2, .int .i64 c3, .int .i64 c4, .int .i64 c5, .bool c6, .int .i64 c7, .int .i64 c8, .int .i64 c9, .int .i64 c10, .slice D data.length dc, .slice R nr rc] 50)) = W := ⟨_, rfl⟩
  rw [hW] at hal
  have k3 : W.cell? ⟨w.heap.size, 3, none⟩ = some (.int .i64 c4) := by rw [← hW]; simp
  have k5 : W.cell? ⟨w.heap.size, 5, none⟩ = some (.bool c6) := by rw [← hW]; simp
  have k6 : W.cell? ⟨w.heap.size, 6, none⟩ = some (.int .i64 c7) := by rw [← hW]; simp
  have k7 : W.cell? ⟨w.heap.size, 7, none⟩ = some (.int .i64 c8) := by rw [← hW]; simp
  have k8 : W.cell? ⟨w.heap.size, 8, none⟩ = some (.int .i64 c9) := by rw [← hW]; simp
  have k9 : W.cell? ⟨w.heap.size, 9, none⟩ = some (.int .i64 c10) := by rw [← hW]; simp
  have k11 : W.cell? ⟨w.heap.size, 11, none⟩ = some (.slice R nr rc) := by rw [← hW]; simp
  have HW := Lib.hid hW
  have HB := Lib.hid hal
  have HM : Hid (ModAt 28 (Cut S w) g first l W) := Lib.hid (h.cut.below hal)
  have HR : Hid (RecFar T recs R nr rc W) := Lib.hid (hr.below hal)
  have HL := Lib.hid hlen
  clear h hs hr hW hal hk hk3 hlen
  go_enter Try.func35, Try.ntmps35
  go_upto_region 1 with fail
  rw [HW.out]
  obtain ⟨bx, hbx⟩ : ∃ bx, w.heap.size = bx := ⟨_, rfl⟩
  rw [hbx] at k3 k5 k6 k7 k8 k9 k11 ⊢
  have HGET := Lib.hid (refget_any c7 c8 W HM.out hf hl)
  clear hbx
  obtain ⟨xs, hxs⟩ : ∃ xs, getL c7 c8 first l = xs := ⟨_, rfl⟩
  obtain ⟨ok, hok⟩ : ∃ ok, getOK c7 first l.length = ok := ⟨_, rfl⟩
  rw [hxs, hok] at HGET
  have HXS := Lib.hid hxs
  have HOK := Lib.hid hok
  clear hxs hok
  cases c6 with
  | false =>
    go_wp2_with (first
      | (go_at_call 16; refine HGET.out.mono ?_; rintro e w5 ⟨A5, m5, c5', cells5, rfl, rfl, ho5, hr5, hb5⟩; have m5 := (hb5.cell (World.block_lt_of_cell? _ _ k5)).trans k5)
      | fail)
    go_ret
    rw [Bool.not_false, Bool.or_true]
    exact ⟨rfl, (HM.out.below hb5).mono (fun b hb => .inl hb.1), Outside.of_below (below_step HB.out HB.out.size hb5)⟩
  | true =>
    go_upto_region 11 with (first
      | (go_at_call 16; refine HGET.out.mono ?_; rintro e w5 ⟨A5, m5, c5', cells5, rfl, rfl, ho5, hr5, hb5⟩; have m5 := (hb5.cell (World.block_lt_of_cell? _ _ k5)).trans k5)
      | fail)
    have HALL : Hid (∀ W', Below w5.heap.size w5 W' → W'.cell? ⟨bx, 8, none⟩ = some (.int .i64 c9) ∧ W'.cell? ⟨bx, 9, none⟩ = some (.int .i64 c10) ∧ W'.cell? ⟨bx, 11, none⟩ = some (.slice R nr rc) ∧ ModAt 28 (Cut S w) g first l W' ∧ RecSee (fun _ => True) xs A5 xs.length c5' W' ∧ RecFar T recs R nr rc W' ∧ W'.cell? ⟨g, 0, none⟩ = some (.int .i64 (first : Int))) := Lib.hid (by
      intro W' hb
      have hbb : Below W.heap.size W W' := below_step hb5 hb5.size hb
      refine ⟨(hbb.cell (World.block_lt_of_cell? _ _ k8)).trans k8, (hbb.cell (World.block_lt_of_cell? _ _ k9)).trans k9, (hbb.cell (World.block_lt_of_cell? _ _ k11)).trans k11, HM.out.below hbb, (see_any rfl ho5 hr5).below hb, HR.out.below hbb, ?_⟩
      obtain ⟨_, _, _, q1, _⟩ := HM.out.below hbb
      exact (mod_cells q1).1)
    have HB5 := Lib.hid hb5
    have hxl : xs.length ≤ 140737488355328 := by
      rw [← HXS.out]
      unfold getL
      split
      · rw [List.length_take, List.length_drop]
        omega
      · exact Nat.zero_le _
    clear hb5 ho5 hr5 k3 k5 k6 k7 k8 k9 k11 HGET m5
    obtain ⟨bN, hN⟩ : ∃ bN, (c9 == ((first + l.length : Nat) : Int)) = bN := ⟨_, rfl⟩
    have hN2 : (c9 != (first : Int) + (l.length : Int)) = !bN := by rw [← hN]; rfl
    have hN3 : (c9 != ((first + l.length : Nat) : Int)) = !bN := by rw [← hN]; rfl
    obtain ⟨bS, hS⟩ : ∃ bS, (c10 == (first : Int)) = bS := ⟨_, rfl⟩
    have hS2 : (c10 != (first : Int)) = !bS := by rw [← hS]; rfl
    obtain ⟨bL, hL⟩ : ∃ bL, ((xs.length : Int) != (nr : Int)) = bL := ⟨_, rfl⟩
    have hL2 : (xs.length != nr) = bL := by
      rw [← hL]
      by_cases h : xs.length = nr
      · simp [h]
      · have h1 : (xs.length != nr) = true := by simpa using h
        have h2 : ((xs.length : Int) != (nr : Int)) = true := by
          simp
          omega
        rw [h1, h2]
    have HV : Hid ((getOK c7 first l.length && (c9 == ((first + l.length : Nat) : Int) && (c10 == (first : Int) && decide (getL c7 c8 first l = recs)))) = (ok && (bN && (bS && decide (xs = recs))))) := Lib.hid (by
      rw [HOK.out, HXS.out, hN, hS])
    have HV2 : Hid ((getOK c7 first l.length && (c9 == (first : Int) + (l.length : Int) && (c10 == (first : Int) && decide (getL c7 c8 first l = recs)))) = (ok && (bN && (bS && decide (xs = recs))))) := Lib.hid (by
      have h := HV.out
      rw [Int.natCast_add] at h
      exact h)
    have HEND : Hid (∀ W', Below w5.heap.size w5 W' → ModAt 28 (Plus S w) g first l W' ∧ Outside S w W') := Lib.hid (fun W' hb => ⟨(HALL.out W' hb).2.2.2.1.mono (fun b hb => .inl hb.1), Outside.of_below (below_step HB.out HB.out.size (below_step HB5.out HB5.out.size hb))⟩)
    have HLEN : Hid (bL = true → decide (xs = recs) = false) := Lib.hid (fun hb => decide_eq_false (fun e => by
      subst e
      obtain ⟨_, h2, _⟩ := (HALL.out w5 (Below.refl _ _)).2.2.2.2.2.1
      rw [← hL2, h2] at hb
      simp at hb))
    have hcase : (ok = true ∧ bN = true ∧ bS = true ∧ bL = false) ∨ (ok = false ∨ (ok = true ∧ bN = false) ∨ (ok = true ∧ bN = true ∧ bS = false) ∨ (ok = true ∧ bN = true ∧ bS = true ∧ bL = true)) := by
      cases ok <;> cases bN <;> cases bS <;> cases bL <;> simp
    clear hN hS hL
    rcases hcase with ⟨rfl, rfl, rfl, rfl⟩ | hbad
    · refine wp_region_calm (Later w5) (by kernel_rfl) (by kernel_rfl) (Below.refl _ _).drew (fun hne => ?_)
      have c0' := fun p : InS (Later w5) => (HALL.out p.w p.h).2.2.2.2.2.2
      have c8' := fun p : InS (Later w5) => (HALL.out p.w p.h).1
      have c9' := fun p : InS (Later w5) => (HALL.out p.w p.h).2.1
      have c11' := fun p : InS (Later w5) => (HALL.out p.w p.h).2.2.1
      repeat (go_big_quiet_step (first
        | (go_at_call 20; exact calm_of (refnext_any _ (HALL.out _ (InS.h _)).2.2.2.1 hf (by omega)) (by rintro e w' ⟨rfl, hb⟩; exact ⟨rfl, later_step (InS.h _) hb⟩))
        | fail))
      refine wpQuiet_nil ?_
      rintro _ ⟨p, rfl⟩
      have hnr : xs.length = nr := by simpa using hL2
      obtain ⟨W6, hb6⟩ := p
      dsimp only
      have HB6 := Lib.hid hb6
      have E2 : Hid (recs.length = nr) := Lib.hid (by
        obtain ⟨_, h2, _⟩ := (HALL.out w5 (Below.refl _ _)).2.2.2.2.2.1
        exact h2)
      clear hb6 c0' c8' c9' c11' hne hN2 hN3 hS2 hL2
      go_wp2_with fail
      go_loopw [9] (fun s wr => ∃ k : Nat, s = .int .i64 (k : Int) ∧ k ≤ xs.length ∧ xs.take k = recs.take k ∧ Below w5.heap.size w5 wr) (fun s _ => xs.length - (intOf s).toNat)
      case atStart => exact ⟨0, rfl, Nat.zero_le _, rfl, HB6.out⟩
      case round =>
        obtain ⟨k, rfl, hk, htk, hb⟩ := hrel
        have HTK := Lib.hid htk
        have HBK := Lib.hid hb
        clear htk
        by_cases hlt : k < xs.length
        · have hki : (k : Int) < (xs.length : Int) := by omega
          have hkn : k < nr := by omega
          have hkni : (k : Int) < (nr : Int) := by omega
          have hA := HALL.out wr hb
          obtain ⟨x, A1, p1, a1, ad, hx, hp, hAd, hcx, hsx⟩ := rec_at hA.2.2.2.2.1 hlt
          obtain ⟨y, B1, q, b1', bd, hy, hq, hBd, hcy, hsy⟩ := rec_far_at hA.2.2.2.2.2.1 hkn
          subst hAd hBd
          have d1 : wr.drew.cell? (ad.add k) = some (.slice A1 p1 a1) := hcx
          have d2 : wr.drew.cell? (bd.add k) = some (.slice B1 q b1') := hcy
          have d3 : wr.drew.cell? ⟨bx, 11, none⟩ = some (.slice (some bd) nr rc) := hA.2.2.1
          have d4 : wr.cell? ⟨bx, 11, none⟩ = some (.slice (some bd) nr rc) := hA.2.2.1
          have q1 : ∀ nq, (convert 30 9 (.slice A1 p1 a1)).run Try.prog (wr.drewN nq) = .ok (.string (strB x)) (wr.drewN nq) := fun nq => run_string_sees _ _ _ _ Try.underlying30 Try.underlying5 Try.underlying9 A1 p1 a1 x hp (hsx.drewN nq)
          have q2 : ∀ nq, (convert 30 9 (.slice B1 q b1')).run Try.prog (wr.drewN nq) = .ok (.string (strB y)) (wr.drewN nq) := fun nq => run_string_sees _ _ _ _ Try.underlying30 Try.underlying5 Try.underlying9 B1 q b1' y hq (hsy.drewN nq)
          have HX1 := Lib.hid hx
          have HY1 := Lib.hid hy
          clear hx hy hp hq hsx hsy hb hA
          by_cases hxy : x = y
          · have s1 : ((strB x).toList == (strB y).toList) = true := by rw [strB_dec]; exact decide_eq_true hxy
            have s2 : ((strB x).toList != (strB y).toList) = false := by rw [bne, s1]; rfl
            go_wp2_with fail
            go_quiet (fail)
            go_wp2_with fail
            go_roundw
            case rel => exact ⟨k + 1, by go_num, hlt, take_step HTK.out HX1.out HY1.out hxy, below_draws HBK.out nq⟩
            case measure => simp [intOf] <;> omega
          · have s1 : ((strB x).toList == (strB y).toList) = false := by rw [strB_dec]; exact decide_eq_false hxy
            have s2 : ((strB x).toList != (strB y).toList) = true := by rw [bne, s1]; rfl
            have hne : decide (xs = recs) = false := decide_eq_false (fun e => hxy (by
              have h1 := HX1.out
              have h2 := HY1.out
              rw [e, h2] at h1
              exact (Option.some.inj h1).symm))
            have HNE := Lib.hid hne
            clear hne
            go_wp2_with fail
            go_quiet (fail)
            go_wp2_with fail
            go_ret
            first | rw [HV.out] | rw [HV2.out]
            rw [HNE.out]
            exact ⟨by simp, HEND.out _ (below_draws HBK.out nq)⟩
        · have hki : ¬ (k : Int) < (xs.length : Int) := by omega
          have heq : decide (xs = recs) = true := decide_eq_true (by
            have h := HTK.out
            rwa [List.take_of_length_le (by omega), List.take_of_length_le (by rw [E2.out]; omega)] at h)
          have HEQ := Lib.hid heq
          clear heq
          go_wp2_with fail
          go_ret
          first | rw [HV.out] | rw [HV2.out]
          rw [HEQ.out]
          exact ⟨by simp, HEND.out _ HBK.out⟩
    · rcases hbad with rfl | ⟨rfl, rfl⟩ | ⟨rfl, rfl, rfl⟩ | ⟨rfl, rfl, rfl, rfl⟩
      all_goals
        refine wp_region_calm (Later w5) (by kernel_rfl) (by kernel_rfl) (Below.refl _ _).drew (fun hne => ?_)
        have c0' := fun p : InS (Later w5) => (HALL.out p.w p.h).2.2.2.2.2.2
        have c8' := fun p : InS (Later w5) => (HALL.out p.w p.h).1
        have c9' := fun p : InS (Later w5) => (HALL.out p.w p.h).2.1
        have c11' := fun p : InS (Later w5) => (HALL.out p.w p.h).2.2.1
        repeat (go_big_quiet_step (first
          | (go_at_call 20; exact calm_of (refnext_any _ (HALL.out _ (InS.h _)).2.2.2.1 hf (by omega)) (by rintro e w' ⟨rfl, hb⟩; exact ⟨rfl, later_step (InS.h _) hb⟩))
          | fail))
        refine wpQuiet_nil ?_
        rintro _ ⟨p, rfl⟩
        go_wp2_with fail
        go_ret
        first | rw [HV.out] | rw [HV2.out]
        refine ⟨?_, HEND.out _ p.h⟩
        first
          | (simp; done)
          | ((first | rw [HLEN.out rfl] | rw [HLEN.out trivial]); simp)
theorem reffits_any {S : Nat → Prop} {g first : Nat} {l : List (List UInt8)} (c : CV) (data : List UInt8) (recs : List (List UInt8)) (w : World) (h : ModAt 28 S g first l w) (hf : first ≤ 140737488355328) (hl : l.length ≤ 4398046511104) (hlen : ∀ x ∈ l, x.length ≤ 140737488355328) (hd : data.length ≤ 140737488355328) (hc : CallFar c data recs w) :
    Calls Try.prog 35 #[.pointer (some ⟨g, 0, none⟩), c.val] w (RetFitR S g (fitOK c recs first l || !c.ans) (fitF c first l) (fitL c data first l) w) := by
  by_cases h1 : c.kind = 1
  · exact reffits_put c data recs w h hf hl hd hc h1
  · by_cases h3 : c.kind = 3
    · exact reffits_trim c data recs w h hf hl hd hc h3
    · exact reffits_get c data recs w h hf hl hlen hc h1 h3
end Go.Proofs.Ytbnbeailbhnbdaa
