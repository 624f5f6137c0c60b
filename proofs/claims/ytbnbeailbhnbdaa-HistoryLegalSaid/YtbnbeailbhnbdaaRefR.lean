/-
  The reference's Right.
-/
import Derived.Test.YtbnbeailbhnbdaaOwnA
import Derived.Test.YtbnbeailbhnbdaaRefC1
set_option linter.unusedVariables false
set_option linter.unusedSimpArgs false
namespace Go.Proofs.Ytbnbeailbhnbdaa
open Go.RowKit

theorem SeenC.all {W : World} {A : Option Addr} {xs : List Full} (h : SeenC W A xs) {k : Nat} {x : Full} (hk : xs[k]? = some x) : ∃ ad, A = some ad ∧ W.cell? (ad.add (k * 12)) = some (.int .i64 x.1.client) ∧ (∀ j v, 0 < j → x.1.cells.toList[j]? = some v → W.cell? ⟨(ad.add (k * 12)).block, (ad.add (k * 12)).off + j, none⟩ = some v) ∧
    (∀ j v, x.1.cells.toList[j]? = some v → W.cell? ((ad.add (k * 12)).add j) = some v) := by
  obtain ⟨cells, h1, h2⟩ := h
  obtain ⟨cs, _, ⟨e, h3, h4⟩, hcs⟩ := h2.get hk
  subst e
  obtain ⟨ad, ea, hc0⟩ := h1 (k * 12) _ (hcs 0 _ rfl)
  have hall : ∀ j v, x.1.cells.toList[j]? = some v → W.cell? ((ad.add (k * 12)).add j) = some v := fun j v hj => by
    obtain ⟨ad', e', hc⟩ := h1 (k * 12 + j) v (hcs j v hj)
    rw [ea] at e'
    cases e'
    rw [add_at]
    exact hc
  exact ⟨ad, ea, hc0, fun j v hj hv => by rw [← add_pos _ j hj]; exact hall j v hv, hall⟩
theorem atC_get {xs : List Full} {k : Nat} (hk : k < xs.length) : ∃ x, xs[k]? = some x ∧ x.1 = atC (cvs xs) (k : Int) := by
  refine ⟨xs[k], List.getElem?_eq_getElem hk, ?_⟩
  unfold atC cvs
  rw [Int.toNat_natCast, List.getD_eq_getElem?_getD, List.getElem?_map, List.getElem?_eq_getElem hk]
  rfl
theorem rightQ_true {cs : List CV} (h2 : cs.length ≤ 2000) (h : ∀ j, j < cs.length → oneQ cs j = true) : rightQ cs = true := by
  unfold rightQ
  rw [decide_eq_true h2, Bool.true_and, List.all_eq_true]
  exact fun j hj => h j (List.mem_range.1 hj)
theorem rightQ_false {cs : List CV} {i : Nat} (hi : i < cs.length) (h : oneQ cs i = false) : rightQ cs = false := by
  unfold rightQ
  rw [Bool.and_eq_false_iff]
  exact .inr (List.all_eq_false.2 ⟨i, List.mem_range.2 hi, by rw [h]; decide⟩)
theorem oneQ_true {cs : List CV} {i : Nat} (ha : aloneB (atC cs (i : Int)) = true) (h : ∀ k, k < cs.length → pairQ cs i k = true) : oneQ cs i = true := by
  unfold oneQ
  rw [ha, Bool.true_and, List.all_eq_true]
  exact fun k hk => h k (List.mem_range.1 hk)
theorem oneQ_false {cs : List CV} {i k : Nat} (hk : k < cs.length) (h : pairQ cs i k = false) : oneQ cs i = false := by
  unfold oneQ
  rw [Bool.and_eq_false_iff]
  exact .inr (List.all_eq_false.2 ⟨k, List.mem_range.2 hk, by rw [h]; decide⟩)
theorem oneQ_alone {cs : List CV} {i : Nat} (ha : aloneB (atC cs (i : Int)) = false) : oneQ cs i = false := by
  unfold oneQ
  rw [ha, Bool.false_and]
set_option maxRecDepth 16384 in
set_option maxHeartbeats 8000000 in
theorem refright_any (A : Option Addr) (xs : List Full) (n c : Nat) (w : World) (h : SeenC w A xs) (hn : xs.length = n) (hm : n ≤ 140737488355328) :
    Calls Try.prog 24 #[.slice A n c] w (RetBo (rightQ (cvs xs)) w) := by
  have H := Lib.hid h
  have HN := Lib.hid hn
  have HCL : Hid ((cvs xs).length = n) := Lib.hid (by rw [cvs_length]; exact hn)
  clear h hn
  by_cases h2 : n ≤ 2000
  · have h2i : (n : Int) ≤ 2000 := by omega
    have h2j : ¬ (2000 : Int) < (n : Int) := by omega
    go_enter Try.func24, Try.ntmps24
    go_wp2_with fail
    go_loopw [3] (fun s3 wr => ∃ i : Nat, s3 = .int .i64 (i : Int) ∧ i ≤ n ∧ (∀ j, j < i → oneQ (cvs xs) j = true) ∧ Below w.heap.size w wr) (fun s3 _ => n - (intOf s3).toNat)
    case atStart => exact ⟨0, rfl, Nat.zero_le _, fun j hj => by omega, Below.refl _ _⟩
    case round =>
      obtain ⟨i, rfl, hi, hok, hb⟩ := hrel
      have HOK := Lib.hid hok
      have HB := Lib.hid hb
      clear hok hb
      by_cases hin : i < n
      · have hii : (i : Int) < (n : Int) := by omega
        obtain ⟨x, hx, hxc⟩ := atC_get (xs := xs) (k := i) (by rw [HN.out]; exact hin)
        obtain ⟨ad, rfl, _, _, hc1⟩ := (H.out.below HB.out).all hx
        obtain ⟨al, hal⟩ : ∃ al, aloneB x.1 = al := ⟨_, rfl⟩
        have HC1 := Lib.hid hc1
        have HX := Lib.hid hx
        have HXC := Lib.hid hxc
        have HAL := Lib.hid hal
        clear hc1 hx hxc hal
        cases al with
        | false =>
          go_wp2_with (first
            | (refine wpList_load_far rfl 50 _ rfl (ad.add (i * 12)) rfl x.1.cells.toList _ HC1.out Try.underlying50 rfl (by kernel_rfl) ?_)
            | (go_at_call 34; refine (refalone_any x.1 _).mono ?_; rintro e w1 ⟨rfl, hb1⟩; rw [HAL.out]; have HB1 := Lib.hid (below_step HB.out HB.out.size hb1); clear hb1)
            | fail)
          go_ret
          refine ⟨?_, HB1.out⟩
          rw [rightQ_false (i := i) (by rw [HCL.out]; exact hin) (oneQ_alone (by rw [← HXC.out]; exact HAL.out))]
          rfl
        | true =>
          go_wp2_with (first
            | (refine wpList_load_far rfl 50 _ rfl (ad.add (i * 12)) rfl x.1.cells.toList _ HC1.out Try.underlying50 rfl (by kernel_rfl) ?_)
            | (go_at_call 34; refine (refalone_any x.1 _).mono ?_; rintro e w1 ⟨rfl, hb1⟩; rw [HAL.out]; have HB1 := Lib.hid (below_step HB.out HB.out.size hb1); clear hb1)
            | fail)
          obtain ⟨wo, hwo⟩ : ∃ wo : World, wo = wr := ⟨_, rfl⟩
          subst hwo
          go_loopw [4] (fun s4 wr => ∃ k : Nat, s4 = .int .i64 (k : Int) ∧ k ≤ n ∧ (∀ j, j < k → pairQ (cvs xs) i j = true) ∧ Below w.heap.size w wr) (fun s4 _ => n - (intOf s4).toNat)
          case atStart => exact ⟨0, rfl, Nat.zero_le _, fun j hj => by omega, HB1.out⟩
          case round =>
            obtain ⟨k, rfl, hk, hpk, hbk⟩ := hrel
            have HPK := Lib.hid hpk
            have HBK := Lib.hid hbk
            clear hpk hbk
            by_cases hkn : k < n
            · have hki : (k : Int) < (n : Int) := by omega
              obtain ⟨y, hy, hyc⟩ := atC_get (xs := xs) (k := k) (by rw [HN.out]; exact hkn)
              obtain ⟨ad1, e1, x0, x1, _⟩ := (H.out.below HBK.out).all HX.out
              cases e1
              obtain ⟨ad2, e2, y0, y1, _⟩ := (H.out.below HBK.out).all hy
              cases e2
              have hpq : pairQ (cvs xs) i k = (k == i || (y.1.client != x.1.client || !(y.1.beg == x.1.beg || (decide (x.1.beg < y.1.beg) && (!x.1.ans || decide (y.1.beg < x.1.fin)))))) := by
                unfold pairQ
                rw [← HXC.out, ← hyc]
              have a1 := x1 1 _ (by decide) rfl
              have a2 := x1 2 _ (by decide) rfl
              have a5 := x1 5 _ (by decide) rfl
              have b1 := y1 1 _ (by decide) rfl
              have HPQ := Lib.hid hpq
              have HYC := Lib.hid hyc
              have HY := Lib.hid hy
              clear hpq hyc hy x1 y1
              obtain ⟨⟨q1, q2, q3, q4, q5, q6, q7, q8, q9, q10, q11, q12⟩, qd, qr⟩ := x
              obtain ⟨⟨r1, r2, r3, r4, r5, r6, r7, r8, r9, r10, r11, r12⟩, rd, rr⟩ := y
              dsimp only at x0 y0 a1 a2 a5 b1 HPQ
              have HCEL : Hid (∀ W', Below w.heap.size w W' → W'.cell? (ad.add (i * 12)) = some (.int .i64 q1) ∧ W'.cell? (ad.add (k * 12)) = some (.int .i64 r1) ∧ W'.cell? ⟨(ad.add (i * 12)).block, (ad.add (i * 12)).off + 1, none⟩ = some (.int .i64 q2) ∧ W'.cell? ⟨(ad.add (i * 12)).block, (ad.add (i * 12)).off + 2, none⟩ = some (.int .i64 q3) ∧ W'.cell? ⟨(ad.add (i * 12)).block, (ad.add (i * 12)).off + 5, none⟩ = some (.bool q6) ∧ W'.cell? ⟨(ad.add (k * 12)).block, (ad.add (k * 12)).off + 1, none⟩ = some (.int .i64 r2)) := Lib.hid (by
                intro W' hb
                obtain ⟨ad1, e1, x0, x1, _⟩ := (H.out.below hb).all HX.out
                cases e1
                obtain ⟨ad2, e2, y0, y1, _⟩ := (H.out.below hb).all HY.out
                cases e2
                exact ⟨x0, y0, x1 1 _ (by decide) rfl, x1 2 _ (by decide) rfl, x1 5 _ (by decide) rfl, y1 1 _ (by decide) rfl⟩)
              have HSTEP : Hid (∀ W', Below w.heap.size w W' → pairQ (cvs xs) i k = true → ∃ k' : Nat, Value.int .i64 ((k : Int) + 1) = .int .i64 (k' : Int) ∧ k' ≤ n ∧ (∀ j, j < k' → pairQ (cvs xs) i j = true) ∧ Below w.heap.size w W') := Lib.hid (fun W' hb hp => ⟨k + 1, by go_num, hkn, fun j hj => by
                rcases Nat.lt_or_ge j k with h9 | h9
                · exact HPK.out j h9
                · obtain rfl : j = k := by omega
                  exact hp, hb⟩)
              have HBAD : Hid (pairQ (cvs xs) i k = false → rightQ (cvs xs) = false) := Lib.hid (fun hp => rightQ_false (i := i) (by rw [HCL.out]; exact hin) (oneQ_false (by rw [HCL.out]; exact hkn) hp))
              clear x0 y0 a1 a2 a5 b1
              go_upto_region 11 with (fail)
              by_cases t1 : k = i
              · have t1' : ((k : Int) == (i : Int)) = true := by simp [t1]
                have hp : pairQ (cvs xs) i k = true := by rw [HPQ.out, t1]; simp
                have HP := Lib.hid hp
                clear hp t1
                refine wp_region_calm (Later wr) (by kernel_rfl) (by kernel_rfl) (Below.refl _ _).drew (fun hne => ?_)
                have k0 := fun p : InS (Later wr) => (HCEL.out p.w (below_step HBK.out HBK.out.size p.h)).1
                have k1 := fun p : InS (Later wr) => (HCEL.out p.w (below_step HBK.out HBK.out.size p.h)).2.1
                have k2 := fun p : InS (Later wr) => (HCEL.out p.w (below_step HBK.out HBK.out.size p.h)).2.2.1
                have k3 := fun p : InS (Later wr) => (HCEL.out p.w (below_step HBK.out HBK.out.size p.h)).2.2.2.1
                have k4 := fun p : InS (Later wr) => (HCEL.out p.w (below_step HBK.out HBK.out.size p.h)).2.2.2.2.1
                have k5 := fun p : InS (Later wr) => (HCEL.out p.w (below_step HBK.out HBK.out.size p.h)).2.2.2.2.2
                repeat (go_big_quiet_step (fail))
                refine wpQuiet_nil ?_
                rintro _ ⟨p, rfl⟩
                clear k0 k1 k2 k3 k4 k5
                go_wp2_with fail
                go_roundw
                case rel => exact HSTEP.out _ (below_step HBK.out HBK.out.size p.h) HP.out
                case measure => simp [intOf] <;> omega
              · have t1' : ((k : Int) == (i : Int)) = false := by simp; omega
                have t1n : (k == i) = false := by simpa using t1
                by_cases t2 : r1 = q1
                · subst t2
                  refine wp_region_calm (Later wr) (by kernel_rfl) (by kernel_rfl) (Below.refl _ _).drew (fun hne => ?_)
                  have k0 := fun p : InS (Later wr) => (HCEL.out p.w (below_step HBK.out HBK.out.size p.h)).1
                  have k1 := fun p : InS (Later wr) => (HCEL.out p.w (below_step HBK.out HBK.out.size p.h)).2.1
                  have k2 := fun p : InS (Later wr) => (HCEL.out p.w (below_step HBK.out HBK.out.size p.h)).2.2.1
                  have k3 := fun p : InS (Later wr) => (HCEL.out p.w (below_step HBK.out HBK.out.size p.h)).2.2.2.1
                  have k4 := fun p : InS (Later wr) => (HCEL.out p.w (below_step HBK.out HBK.out.size p.h)).2.2.2.2.1
                  have k5 := fun p : InS (Later wr) => (HCEL.out p.w (below_step HBK.out HBK.out.size p.h)).2.2.2.2.2
                  repeat (go_big_quiet_step (fail))
                  refine wpQuiet_nil ?_
                  rintro _ ⟨p, rfl⟩
                  clear k0 k1 k2 k3 k4 k5
                  go_wp2_with fail
                  have HBP : Hid (Below w.heap.size w p.w) := Lib.hid (below_step HBK.out HBK.out.size p.h)
                  obtain ⟨wv, hwv⟩ : ∃ wv, p.w = wv := ⟨_, rfl⟩
                  rw [hwv] at HBP ⊢
                  by_cases t3 : r2 = q2
                  · subst t3
                    have hp : pairQ (cvs xs) i k = false := by rw [HPQ.out, t1n]; simp
                    have HP := Lib.hid hp
                    clear hp
                    refine wp_region_calm (Later wv) (by kernel_rfl) (by kernel_rfl) (Below.refl _ _).drew (fun hne => ?_)
                    have k0 := fun p : InS (Later wv) => (HCEL.out p.w (below_step HBP.out HBP.out.size p.h)).1
                    have k1 := fun p : InS (Later wv) => (HCEL.out p.w (below_step HBP.out HBP.out.size p.h)).2.1
                    have k2 := fun p : InS (Later wv) => (HCEL.out p.w (below_step HBP.out HBP.out.size p.h)).2.2.1
                    have k3 := fun p : InS (Later wv) => (HCEL.out p.w (below_step HBP.out HBP.out.size p.h)).2.2.2.1
                    have k4 := fun p : InS (Later wv) => (HCEL.out p.w (below_step HBP.out HBP.out.size p.h)).2.2.2.2.1
                    have k5 := fun p : InS (Later wv) => (HCEL.out p.w (below_step HBP.out HBP.out.size p.h)).2.2.2.2.2
                    repeat (go_big_quiet_step (fail))
                    refine wpQuiet_nil ?_
                    rintro _ ⟨p, rfl⟩
                    clear k0 k1 k2 k3 k4 k5
                    go_wp2_with fail
                    go_ret
                    refine ⟨?_, below_step HBP.out HBP.out.size p.h⟩
                    rw [HBAD.out HP.out]
                    rfl
                  · have t3' : (r2 == q2) = false := by simpa using t3
                    by_cases t4 : q2 < r2
                    · cases q6 with
                      | false =>
                        have hp : pairQ (cvs xs) i k = false := by rw [HPQ.out, t1n]; simp [t4]
                        have HP := Lib.hid hp
                        clear hp
                        refine wp_region_calm (Later wv) (by kernel_rfl) (by kernel_rfl) (Below.refl _ _).drew (fun hne => ?_)
                        have k0 := fun p : InS (Later wv) => (HCEL.out p.w (below_step HBP.out HBP.out.size p.h)).1
                        have k1 := fun p : InS (Later wv) => (HCEL.out p.w (below_step HBP.out HBP.out.size p.h)).2.1
                        have k2 := fun p : InS (Later wv) => (HCEL.out p.w (below_step HBP.out HBP.out.size p.h)).2.2.1
                        have k3 := fun p : InS (Later wv) => (HCEL.out p.w (below_step HBP.out HBP.out.size p.h)).2.2.2.1
                        have k4 := fun p : InS (Later wv) => (HCEL.out p.w (below_step HBP.out HBP.out.size p.h)).2.2.2.2.1
                        have k5 := fun p : InS (Later wv) => (HCEL.out p.w (below_step HBP.out HBP.out.size p.h)).2.2.2.2.2
                        repeat (go_big_quiet_step (fail))
                        refine wpQuiet_nil ?_
                        rintro _ ⟨p, rfl⟩
                        clear k0 k1 k2 k3 k4 k5
                        go_wp2_with fail
                        go_ret
                        refine ⟨?_, below_step HBP.out HBP.out.size p.h⟩
                        rw [HBAD.out HP.out]
                        rfl
                      | true =>
                        by_cases t5 : r2 < q3
                        · have hp : pairQ (cvs xs) i k = false := by rw [HPQ.out, t1n]; simp [t4, t5]
                          have HP := Lib.hid hp
                          clear hp
                          refine wp_region_calm (Later wv) (by kernel_rfl) (by kernel_rfl) (Below.refl _ _).drew (fun hne => ?_)
                          have k0 := fun p : InS (Later wv) => (HCEL.out p.w (below_step HBP.out HBP.out.size p.h)).1
                          have k1 := fun p : InS (Later wv) => (HCEL.out p.w (below_step HBP.out HBP.out.size p.h)).2.1
                          have k2 := fun p : InS (Later wv) => (HCEL.out p.w (below_step HBP.out HBP.out.size p.h)).2.2.1
                          have k3 := fun p : InS (Later wv) => (HCEL.out p.w (below_step HBP.out HBP.out.size p.h)).2.2.2.1
                          have k4 := fun p : InS (Later wv) => (HCEL.out p.w (below_step HBP.out HBP.out.size p.h)).2.2.2.2.1
                          have k5 := fun p : InS (Later wv) => (HCEL.out p.w (below_step HBP.out HBP.out.size p.h)).2.2.2.2.2
                          repeat (go_big_quiet_step (fail))
                          refine wpQuiet_nil ?_
                          rintro _ ⟨p, rfl⟩
                          clear k0 k1 k2 k3 k4 k5
                          go_wp2_with fail
                          go_ret
                          refine ⟨?_, below_step HBP.out HBP.out.size p.h⟩
                          rw [HBAD.out HP.out]
                          rfl
                        · have hp : pairQ (cvs xs) i k = true := by rw [HPQ.out, t1n]; simp [t3, t4, t5]
                          have HP := Lib.hid hp
                          clear hp
                          refine wp_region_calm (Later wv) (by kernel_rfl) (by kernel_rfl) (Below.refl _ _).drew (fun hne => ?_)
                          have k0 := fun p : InS (Later wv) => (HCEL.out p.w (below_step HBP.out HBP.out.size p.h)).1
                          have k1 := fun p : InS (Later wv) => (HCEL.out p.w (below_step HBP.out HBP.out.size p.h)).2.1
                          have k2 := fun p : InS (Later wv) => (HCEL.out p.w (below_step HBP.out HBP.out.size p.h)).2.2.1
                          have k3 := fun p : InS (Later wv) => (HCEL.out p.w (below_step HBP.out HBP.out.size p.h)).2.2.2.1
                          have k4 := fun p : InS (Later wv) => (HCEL.out p.w (below_step HBP.out HBP.out.size p.h)).2.2.2.2.1
                          have k5 := fun p : InS (Later wv) => (HCEL.out p.w (below_step HBP.out HBP.out.size p.h)).2.2.2.2.2
                          repeat (go_big_quiet_step (fail))
                          refine wpQuiet_nil ?_
                          rintro _ ⟨p, rfl⟩
                          clear k0 k1 k2 k3 k4 k5
                          go_wp2_with fail
                          go_roundw
                          case rel => exact HSTEP.out _ (below_step HBP.out HBP.out.size p.h) HP.out
                          case measure => simp [intOf] <;> omega
                    · have hp : pairQ (cvs xs) i k = true := by rw [HPQ.out, t1n]; simp [t3, t4]
                      have HP := Lib.hid hp
                      clear hp
                      refine wp_region_calm (Later wv) (by kernel_rfl) (by kernel_rfl) (Below.refl _ _).drew (fun hne => ?_)
                      have k0 := fun p : InS (Later wv) => (HCEL.out p.w (below_step HBP.out HBP.out.size p.h)).1
                      have k1 := fun p : InS (Later wv) => (HCEL.out p.w (below_step HBP.out HBP.out.size p.h)).2.1
                      have k2 := fun p : InS (Later wv) => (HCEL.out p.w (below_step HBP.out HBP.out.size p.h)).2.2.1
                      have k3 := fun p : InS (Later wv) => (HCEL.out p.w (below_step HBP.out HBP.out.size p.h)).2.2.2.1
                      have k4 := fun p : InS (Later wv) => (HCEL.out p.w (below_step HBP.out HBP.out.size p.h)).2.2.2.2.1
                      have k5 := fun p : InS (Later wv) => (HCEL.out p.w (below_step HBP.out HBP.out.size p.h)).2.2.2.2.2
                      repeat (go_big_quiet_step (fail))
                      refine wpQuiet_nil ?_
                      rintro _ ⟨p, rfl⟩
                      clear k0 k1 k2 k3 k4 k5
                      go_wp2_with fail
                      go_roundw
                      case rel => exact HSTEP.out _ (below_step HBP.out HBP.out.size p.h) HP.out
                      case measure => simp [intOf] <;> omega
                · have t2' : (r1 == q1) = false := by simpa using t2
                  have hp : pairQ (cvs xs) i k = true := by rw [HPQ.out, t1n]; simp [t2]
                  have HP := Lib.hid hp
                  clear hp
                  refine wp_region_calm (Later wr) (by kernel_rfl) (by kernel_rfl) (Below.refl _ _).drew (fun hne => ?_)
                  have k0 := fun p : InS (Later wr) => (HCEL.out p.w (below_step HBK.out HBK.out.size p.h)).1
                  have k1 := fun p : InS (Later wr) => (HCEL.out p.w (below_step HBK.out HBK.out.size p.h)).2.1
                  have k2 := fun p : InS (Later wr) => (HCEL.out p.w (below_step HBK.out HBK.out.size p.h)).2.2.1
                  have k3 := fun p : InS (Later wr) => (HCEL.out p.w (below_step HBK.out HBK.out.size p.h)).2.2.2.1
                  have k4 := fun p : InS (Later wr) => (HCEL.out p.w (below_step HBK.out HBK.out.size p.h)).2.2.2.2.1
                  have k5 := fun p : InS (Later wr) => (HCEL.out p.w (below_step HBK.out HBK.out.size p.h)).2.2.2.2.2
                  repeat (go_big_quiet_step (fail))
                  refine wpQuiet_nil ?_
                  rintro _ ⟨p, rfl⟩
                  clear k0 k1 k2 k3 k4 k5
                  go_wp2_with fail
                  go_roundw
                  case rel => exact HSTEP.out _ (below_step HBK.out HBK.out.size p.h) HP.out
                  case measure => simp [intOf] <;> omega
            · have hki : ¬ (k : Int) < (n : Int) := by omega
              have hone : oneQ (cvs xs) i = true := oneQ_true (by rw [← HXC.out]; exact HAL.out) (fun j hj => HPK.out j (by rw [HCL.out] at hj; omega))
              have HONE := Lib.hid hone
              clear hone
              go_wp2_with fail
              go_roundw
              case rel =>
                refine ⟨i + 1, by go_num, hin, fun j hj => ?_, HBK.out⟩
                rcases Nat.lt_or_ge j i with h9 | h9
                · exact HOK.out j h9
                · obtain rfl : j = i := by omega
                  exact HONE.out
              case measure => simp [intOf] <;> omega
      · have hii : ¬ (i : Int) < (n : Int) := by omega
        go_wp2_with fail
        go_ret
        refine ⟨?_, HB.out⟩
        rw [rightQ_true (by rw [HCL.out]; exact h2) (fun j hj => HOK.out j (by rw [HCL.out] at hj; omega))]
        rfl
  · have h2j : (2000 : Int) < (n : Int) := by omega
    go_enter Try.func24, Try.ntmps24
    go_wp2_with fail
    go_ret
    refine ⟨?_, Below.refl _ _⟩
    unfold rightQ
    rw [HCL.out, decide_eq_false h2]
    rfl
end Go.Proofs.Ytbnbeailbhnbdaa
