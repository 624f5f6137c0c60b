/-
  The reference's ahead.
-/
import Derived.Test.YtbnbeailbhnbdaaRefR
import Derived.Test.YtbnbeailbhnbdaaOrdP
set_option linter.unusedVariables false
set_option linter.unusedSimpArgs false
namespace Go.Proofs.Ytbnbeailbhnbdaa
open Go.RowKit

set_option maxHeartbeats 4000000 in
theorem ahead_any (A : Option Addr) (xs : List Full) (n c : Nat) (w : World) (h : SeenC w A xs) (hn : xs.length = n) (i k : Nat) (hi : i < n) (hk : k < n) :
    Calls Try.prog 43 #[.slice A n c, .int .i64 (i : Int), .int .i64 (k : Int)] w (RetBo (ltO (cvs xs) (i : Int) (k : Int)) w) := by
  have hii : (i : Int) < (n : Int) := by omega
  have hkk : (k : Int) < (n : Int) := by omega
  obtain ⟨x, hx, hxc⟩ := atC_get (xs := xs) (k := i) (by omega)
  obtain ⟨y, hy, hyc⟩ := atC_get (xs := xs) (k := k) (by omega)
  have HCEL : Hid (∃ ad, A = some ad ∧ ∀ W', Below w.heap.size w W' → W'.cell? ⟨(ad.add (i * 12)).block, (ad.add (i * 12)).off + 1, none⟩ = some (.int .i64 x.1.beg) ∧ W'.cell? ⟨(ad.add (i * 12)).block, (ad.add (i * 12)).off + 3, none⟩ = some (.int .i64 x.1.kind) ∧ W'.cell? ⟨(ad.add (i * 12)).block, (ad.add (i * 12)).off + 4, none⟩ = some (.int .i64 x.1.place) ∧ W'.cell? ⟨(ad.add (k * 12)).block, (ad.add (k * 12)).off + 1, none⟩ = some (.int .i64 y.1.beg) ∧ W'.cell? ⟨(ad.add (k * 12)).block, (ad.add (k * 12)).off + 3, none⟩ = some (.int .i64 y.1.kind) ∧ W'.cell? ⟨(ad.add (k * 12)).block, (ad.add (k * 12)).off + 4, none⟩ = some (.int .i64 y.1.place)) := Lib.hid (by
    obtain ⟨ad, e0, _, _, _⟩ := h.all hx
    refine ⟨ad, e0, fun W' hb => ?_⟩
    obtain ⟨ad1, e1, _, x1, _⟩ := (h.below hb).all hx
    obtain ⟨ad2, e2, _, y1, _⟩ := (h.below hb).all hy
    rw [e0] at e1 e2
    cases e1
    cases e2
    exact ⟨x1 1 _ (by decide) rfl, x1 3 _ (by decide) rfl, x1 4 _ (by decide) rfl, y1 1 _ (by decide) rfl, y1 3 _ (by decide) rfl, y1 4 _ (by decide) rfl⟩)
  have LP := Lib.hid (@ltO_place (cvs xs) (i : Int) (k : Int))
  have LL := Lib.hid (@ltO_late (cvs xs) (i : Int) (k : Int))
  have LE := Lib.hid (@ltO_early (cvs xs) (i : Int) (k : Int))
  have LB := Lib.hid (@ltO_beg (cvs xs) (i : Int) (k : Int))
  have LI := Lib.hid (@ltO_idx (cvs xs) (i : Int) (k : Int))
  rw [← hxc, ← hyc] at LP LL LE LB LI
  obtain ⟨r, hr⟩ : ∃ r, ltO (cvs xs) (i : Int) (k : Int) = r := ⟨_, rfl⟩
  rw [hr] at LP LL LE LB LI ⊢
  clear hxc hyc hx hy hr h hn
  obtain ⟨⟨q1, q2, q3, q4, q5, q6, q7, q8, q9, q10, q11, q12⟩, qd, qr⟩ := x
  obtain ⟨⟨r1, r2, r3, r4, r5, r6, r7, r8, r9, r10, r11, r12⟩, rd, rr⟩ := y
  dsimp only at HCEL LP LL LE LB LI
  obtain ⟨ad, rfl, hcel⟩ := HCEL.out
  have HC := Lib.hid hcel
  clear hcel HCEL
  have b1 : Below w.heap.size w w.drew := (Below.refl _ _).drew
  have b2 : Below w.heap.size w w.drew.drew := b1.drew
  have b3 : Below w.heap.size w w.drew.drew.drew := b2.drew
  have b4 : Below w.heap.size w w.drew.drew.drew.drew := b3.drew
  obtain ⟨a1, a2, a3, a4, a5, a6⟩ := HC.out w (Below.refl _ _)
  go_enter Try.func43, Try.ntmps43
  go_upto_region 1 with fail
  by_cases t1 : q5 = r5
  · subst t1
    by_cases k1 : q4 = 2
    · subst k1
      by_cases k2 : r4 = 2
      · subst k2
        by_cases b1 : q2 = r2
        · subst b1
          have R : Hid (r = decide (i < k)) := Lib.hid ((LI.out rfl Iff.rfl rfl).trans (decide_eq_decide.2 Int.ofNat_lt))
          clear LP LL LE LB LI HC
          go_quiet (fail)
          go_wp2_with fail
          go_quiet (fail)
          go_wp2_with fail
          go_quiet (fail)
          go_wp2_with fail
          go_ret
          exact ⟨by rw [R.out]; rfl, ⟨rfl, rfl, rfl, Nat.le_refl _, fun _ _ => rfl⟩⟩
        · have b1' : (q2 == r2) = false := by simpa using b1
          have R := Lib.hid (LB.out rfl Iff.rfl b1)
          clear LP LL LE LB LI HC
          go_quiet (fail)
          go_wp2_with fail
          go_quiet (fail)
          go_wp2_with fail
          go_quiet (fail)
          go_wp2_with fail
          go_quiet (fail)
          go_wp2_with fail
          go_ret
          exact ⟨by rw [R.out]; rfl, ⟨rfl, rfl, rfl, Nat.le_refl _, fun _ _ => rfl⟩⟩
      · have k2' : (r4 == 2) = false := by simpa using k2
        have R := Lib.hid (LL.out rfl rfl k2)
        clear LP LL LE LB LI HC
        go_quiet (fail)
        go_wp2_with fail
        go_quiet (fail)
        go_wp2_with fail
        go_ret
        exact ⟨by rw [R.out]; rfl, ⟨rfl, rfl, rfl, Nat.le_refl _, fun _ _ => rfl⟩⟩
    · have k1' : (q4 == 2) = false := by simpa using k1
      by_cases k2 : r4 = 2
      · subst k2
        have R := Lib.hid (LE.out rfl k1 rfl)
        clear LP LL LE LB LI HC
        go_quiet (fail)
        go_wp2_with fail
        go_quiet (fail)
        go_wp2_with fail
        go_ret
        exact ⟨by rw [R.out]; rfl, ⟨rfl, rfl, rfl, Nat.le_refl _, fun _ _ => rfl⟩⟩
      · have k2' : (r4 == 2) = false := by simpa using k2
        by_cases b1 : q2 = r2
        · subst b1
          have R : Hid (r = decide (i < k)) := Lib.hid ((LI.out rfl ⟨fun h => absurd h k1, fun h => absurd h k2⟩ rfl).trans (decide_eq_decide.2 Int.ofNat_lt))
          clear LP LL LE LB LI HC
          go_quiet (fail)
          go_wp2_with fail
          go_quiet (fail)
          go_wp2_with fail
          go_quiet (fail)
          go_wp2_with fail
          go_ret
          exact ⟨by rw [R.out]; rfl, ⟨rfl, rfl, rfl, Nat.le_refl _, fun _ _ => rfl⟩⟩
        · have b1' : (q2 == r2) = false := by simpa using b1
          have R := Lib.hid (LB.out rfl ⟨fun h => absurd h k1, fun h => absurd h k2⟩ b1)
          clear LP LL LE LB LI HC
          go_quiet (fail)
          go_wp2_with fail
          go_quiet (fail)
          go_wp2_with fail
          go_quiet (fail)
          go_wp2_with fail
          go_quiet (fail)
          go_wp2_with fail
          go_ret
          exact ⟨by rw [R.out]; rfl, ⟨rfl, rfl, rfl, Nat.le_refl _, fun _ _ => rfl⟩⟩
  · have t1' : (q5 == r5) = false := by simpa using t1
    have R := Lib.hid (LP.out t1)
    clear LP LL LE LB LI HC
    go_quiet (fail)
    go_wp2_with fail
    go_quiet (fail)
    go_wp2_with fail
    go_ret
    exact ⟨by rw [R.out]; rfl, ⟨rfl, rfl, rfl, Nat.le_refl _, fun _ _ => rfl⟩⟩
end Go.Proofs.Ytbnbeailbhnbdaa
