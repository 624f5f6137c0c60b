/-
  The law package's 'same' at two rows of the same frames.
-/
import Derived.Test.YtfbcdlbcdaobcaaRefScan
set_option linter.unusedVariables false
set_option linter.unusedSimpArgs false
namespace Go.Proofs.Ytfbcdlbcdaobcaa
open Go.RowKit

/-- A frame as it is seen. -/
def frSeen (W : World) (f : Int × List UInt8) (cs : List Value) : Prop :=
  ∃ A c, cs = [.int .i64 f.1, .slice A f.2.length c] ∧ Sees W A (u8s f.2)
def sameRel (w : World) (n : Nat) (i : Value) (wr : World) : Prop := ∃ k nq, k ≤ n ∧ i = .int .i64 ((k : Nat) : Int) ∧ wr = w.drewN nq
/-- A row of records: one of them. -/
theorem frSeen_at {w : World} {A : Option Addr} {xs : List (Int × List UInt8)} {cells : List Value} (hs : Sees w A cells) (hr : Recs frSeen 2 w xs cells) (i : Nat) (hi : i < xs.length) :
    ∃ ad A1 c1, A = some ad ∧ w.cell? (ad.add (i * 2)) = some (.int .i64 xs[i].1) ∧ w.cell? (ad.add (i * 2 + 1)) = some (.slice A1 xs[i].2.length c1) ∧ Sees w A1 (u8s xs[i].2) := by
  obtain ⟨cs, hl, ⟨A1, c1, rfl, h1⟩, hget⟩ := hr.get (j := i) (x := xs[i]) (by simp [hi])
  obtain ⟨ad, e, h2⟩ := hs (i * 2 + 0) _ (hget 0 _ rfl)
  obtain ⟨ad', e', h3⟩ := hs (i * 2 + 1) _ (hget 1 _ rfl)
  rw [e] at e'
  cases e'
  exact ⟨ad, A1, c1, e, h2, h3, h1⟩
set_option maxHeartbeats 1000000 in
theorem same_yes (xs : List (Int × List UInt8)) (A B : Option Addr) (ca cb : Nat) (la lb : List Value) (w : World) (hl : xs.length ≤ 140737488355328) (hA : Sees w A la) (hB : Sees w B lb) (rA : Recs frSeen 2 w xs la) (rB : Recs frSeen 2 w xs lb) :
    Calls Try.prog 16 #[.slice A xs.length ca, .slice B xs.length cb] w (RetQuiet w (.bool true)) := by
  have HA := Lib.hid hA
  have HB := Lib.hid hB
  have RA := Lib.hid rA
  have RB := Lib.hid rB
  clear hA hB rA rB
  go_enter Try.func16, Try.ntmps16
  go_wp2
  go_loopw [5] (fun i wr => sameRel w xs.length i wr) (fun i _ => xs.length - (intOf i).toNat)
  case atStart => exact ⟨0, 0, Nat.zero_le _, rfl, rfl⟩
  case round =>
    obtain ⟨k, nq0, hk, rfl, rfl⟩ := hrel
    by_cases hlt : k < xs.length
    · obtain ⟨ad, A1, c1, rfl, a1, a2, a3⟩ := frSeen_at HA.out RA.out k hlt
      obtain ⟨bd, B1, d1, rfl, b1, b2, b3⟩ := frSeen_at HB.out RB.out k hlt
      generalize xs[k].1 = kind at a1 b1
      generalize hdd : xs[k].2 = data at a2 a3 b2 b3
      clear hdd
      have q1 : ∀ nq, (convert 22 9 (.slice A1 data.length c1)).run Try.prog (w.drewN nq) = .ok (.string (strB data)) (w.drewN nq) := fun nq => run_string_sees _ _ _ _ Try.underlying22 Try.underlying5 Try.underlying9 _ _ _ data rfl a3
      have q2 : ∀ nq, (convert 22 9 (.slice B1 data.length d1)).run Try.prog (w.drewN nq) = .ok (.string (strB data)) (w.drewN nq) := fun nq => run_string_sees _ _ _ _ Try.underlying22 Try.underlying5 Try.underlying9 _ _ _ data rfl b3
      have a2' : w.cell? ⟨(ad.add (k * 2)).block, (ad.add (k * 2)).off + 1, none⟩ = some (.slice A1 data.length c1) := by rw [← add_pos _ 1 (by omega), add_at]; exact a2
      have b2' : w.cell? ⟨(bd.add (k * 2)).block, (bd.add (k * 2)).off + 1, none⟩ = some (.slice B1 data.length d1) := by rw [← add_pos _ 1 (by omega), add_at]; exact b2
      clear a3 b3
      have h0i : (0 : Int) ≤ (k : Int) := by omega
      have hki : (k : Int) < (xs.length : Int) := by omega
      go_wp2
      go_quiet (fail)
      go_wp2
      go_roundw
      case rel => exact ⟨k + 1, _, by omega, by go_num, rfl⟩
      case measure => simp [intOf]; omega
    · obtain rfl : k = xs.length := by omega
      go_wp2
      go_ret
      exact ⟨rfl, _, rfl⟩
end Go.Proofs.Ytfbcdlbcdaobcaa
