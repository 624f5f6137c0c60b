/-
  ProgressMeets: the entries that its two logs begin with (rows).
-/
import Derived.Test.YtlcnpfiiijehmaaFromP
import Derived.Test.YtlcnpfiiijehmaaKnow13
set_option linter.unusedVariables false
set_option linter.unusedSimpArgs false
namespace Go.Proofs.Ytlcnpfiiijehmaa
open Go.RowKit

def stepN (s : Int) : Nat := 2 * ((s.tmod 3 + 3).tmod 3).toNat
def termN (t : Nat) (ss : List Int) (k : Nat) : Nat := t + ((ss.take k).map stepN).sum
def rowsN (i t : Nat) (ss : List Int) (n : Nat) : List Ent := (List.range n).map fun k => entC (termN t ss (k + 1)) (i + 1 + k)
theorem rowsN_succ (i t : Nat) (ss : List Int) (k : Nat) : rowsN i t ss (k + 1) = rowsN i t ss k ++ [entC (termN t ss (k + 1)) (i + 1 + k)] := by
  unfold rowsN
  rw [List.range_succ, List.map_append]
  rfl
theorem stepN_le (s : Int) : stepN s ≤ 4 := by
  unfold stepN
  have a1 := Int.tmod_lt_of_pos s (show (0 : Int) < 3 by decide)
  have a2 : -3 < s.tmod 3 := Int.lt_tmod_of_pos s (show (0 : Int) < 3 by decide)
  rw [Int.tmod_eq_emod_of_nonneg (by omega)]
  omega
theorem stepN_eq (s : Int) : ((stepN s : Nat) : Int) = 2 * (s.tmod 3 + 3).tmod 3 := by
  unfold stepN
  have a1 := Int.tmod_lt_of_pos s (show (0 : Int) < 3 by decide)
  have a2 : -3 < s.tmod 3 := Int.lt_tmod_of_pos s (show (0 : Int) < 3 by decide)
  rw [Int.tmod_eq_emod_of_nonneg (by omega)]
  omega
theorem sum_steps_le : ∀ (ss : List Int), (ss.map stepN).sum ≤ 4 * ss.length
  | [] => by simp
  | s :: r => by
    have := sum_steps_le r
    have := stepN_le s
    simp
    omega
theorem termN_le {t k : Nat} {ss : List Int} (ht : t ≤ 1000) (hk : k ≤ 100) : termN t ss k ≤ 1000000 := by
  unfold termN
  have h := sum_steps_le (ss.take k)
  have h2 : (ss.take k).length ≤ k := List.length_take_le _ _
  omega
theorem termN_in {t k : Nat} {ss : List Int} (hk : k < ss.length) : termN t ss (k + 1) = termN t ss k + stepN ss[k] := by
  unfold termN
  rw [List.take_succ_eq_append_getElem hk, List.map_append, List.sum_append]
  simp
  omega
theorem termN_out {t k : Nat} {ss : List Int} (hk : ss.length ≤ k) : termN t ss (k + 1) = termN t ss k := by
  unfold termN
  rw [List.take_of_length_le hk, List.take_of_length_le (by omega)]
theorem rowsN_length (i t : Nat) (ss : List Int) (n : Nat) : (rowsN i t ss n).length = n := by simp [rowsN]
theorem int_at {w : World} {S : Option Addr} {ss : List Int} (h : Sees w S (ss.map i64v)) {k : Nat} (hk : k < ss.length) : ∃ ad, S = some ad ∧ w.cell? (ad.add k) = some (.int .i64 ss[k]) := by
  obtain ⟨ad, e, hc⟩ := h k (.int .i64 ss[k]) (by rw [List.getElem?_map, List.getElem?_eq_getElem hk]; rfl)
  exact ⟨ad, e, hc⟩
def RetRows (i t : Nat) (ss : List Int) (n : Nat) (w : World) (e : Ending) (w' : World) : Prop := ∃ A c, e = .returned (.slice A n c) ∧ OwnsE w.heap.size (.slice A n c) n (rowsN i t ss n) w' ∧ Below w.heap.size w w'
set_option maxRecDepth 16384 in
set_option maxHeartbeats 8000000 in
theorem rows_any (i t : Nat) (S : Option Addr) (ss : List Int) (ns cs n : Nat) (w : World) (hi : i ≤ 1000) (ht : t ≤ 1000) (hss : ss.length = ns) (hns : ns ≤ 140737488355328) (hS : Sees w S (ss.map i64v)) (hn : n ≤ 99) :
    Calls Try.prog 20 #[.int .i64 (i : Int), .int .i64 (t : Int), .slice S ns cs, .int .i64 (n : Int)] w (RetRows i t ss n w) := by
  have HSS := Lib.hid hss
  have HS := Lib.hid hS
  have HST : Hid (∃ (k : Nat) (B : Option Addr) (cp : Nat), Value.int .i64 0 = .int .i64 (k : Int) ∧ Value.int .i64 (t : Int) = .int .i64 (termN t ss k : Nat) ∧ Value.slice none 0 0 = .slice B k cp ∧ k ≤ n ∧ OwnsE w.heap.size (.slice B k cp) k (rowsN i t ss k) w ∧ Below w.heap.size w w) :=
    Lib.hid ⟨0, none, 0, rfl, by simp [termN], rfl, Nat.zero_le _, OwnsE.nil _ _, Below.refl _ _⟩
  clear hss hS
  go_enter Try.func20, Try.ntmps20
  go_wp2_with fail
  go_loopw [1, 9, 10] (fun s1 s9 s10 wr => ∃ (k : Nat) (B : Option Addr) (cp : Nat), s10 = .int .i64 (k : Int) ∧ s1 = .int .i64 (termN t ss k : Nat) ∧ s9 = .slice B k cp ∧ k ≤ n ∧ OwnsE w.heap.size (.slice B k cp) k (rowsN i t ss k) wr ∧ Below w.heap.size w wr) (fun _ _ s10 _ => n - (intOf s10).toNat)
  case atStart => exact HST.out
  case round =>
    obtain ⟨k, B, cp, rfl, rfl, rfl, hk, ⟨cells, o1, o2⟩, hb⟩ := hrel
    have O1 := Lib.hid o1
    have O2 := Lib.hid o2
    have HBW := Lib.hid hb
    clear HST o1 o2 hb
    by_cases hlt : k < n
    · have hki : (k : Int) < (n : Int) := by omega
      have e8 : IntKind.i64.wrap ((i : Int) + 1) = (i : Int) + 1 := IntWalk.i64_in _ (by omega)
      have e9 : IntKind.i64.wrap ((i : Int) + 1 + (k : Int)) = (i : Int) + 1 + (k : Int) := IntWalk.i64_in _ (by omega)
      obtain ⟨tk, htk⟩ : ∃ tk : Int, ((termN t ss k : Nat) : Int) = tk := ⟨_, rfl⟩
      have HTK := Lib.hid htk
      have htb : termN t ss k ≤ 1000000 := termN_le ht (by omega)
      rw [htk]
      by_cases hks : k < ns
      · have hksi : (k : Int) < (ns : Int) := by omega
        obtain ⟨ad, rfl, hc⟩ := int_at (HS.out.below HBW.out) (k := k) (by rw [HSS.out]; exact hks)
        obtain ⟨s, hs⟩ : ∃ s, ss[k]'(by rw [HSS.out]; exact hks) = s := ⟨_, rfl⟩
        rw [hs] at hc
        have a1 := Int.tmod_lt_of_pos s (show (0 : Int) < 3 by decide)
        have a2 : -3 < s.tmod 3 := Int.lt_tmod_of_pos s (show (0 : Int) < 3 by decide)
        have e1 : IntKind.i64.wrap (s.tmod 3 + 3) = s.tmod 3 + 3 := IntWalk.i64_in _ (by omega)
        have hsn := stepN_eq s
        have hsl := stepN_le s
        obtain ⟨r, hr⟩ : ∃ r, (s.tmod 3 + 3).tmod 3 = r := ⟨_, rfl⟩
        rw [hr] at hsn
        have e2 : IntKind.i64.wrap (2 * r) = 2 * r := IntWalk.i64_in _ (by omega)
        obtain ⟨tv, htv⟩ : ∃ tv : Int, tk + 2 * r = tv := ⟨_, rfl⟩
        have e3 : IntKind.i64.wrap (tk + 2 * r) = tv := by rw [IntWalk.i64_in _ (by omega)]; exact htv
        have HTV : Hid ((termN t ss (k + 1) : Nat) = tv) := Lib.hid (by rw [termN_in (by rw [HSS.out]; exact hks), hs]; omega)
        have HTVV : Hid (Value.int .i64 tv = .int .i64 (termN t ss (k + 1) : Nat)) := Lib.hid (by rw [HTV.out])
        have HCL : Hid (∀ A3 c3, (entC (termN t ss (k + 1)) (i + 1 + k)).cells (.slice A3 1 c3) = [.int .i64 tv, .int .i64 ((i : Int) + 1 + (k : Int)), .int .i64 2, .slice A3 1 c3]) := Lib.hid (fun A3 c3 => by
          unfold Ent.cells entC
          dsimp only
          rw [HTV.out, show ((i + 1 + k : Nat) : Int) = (i : Int) + 1 + (k : Int) by omega])
        clear hs a1 a2 hsn hsl htv htk htb
        have HTB : Hid (termN t ss (k + 1) ≤ 1000000) := Lib.hid (termN_le ht (by omega))
        go_wp2_with (first
          | (go_at_call 31; refine (entry_at (termN t ss (k + 1)) (i + 1 + k) tv ((i : Int) + 1 + (k : Int)) wr (by have := HTB.out; omega) HTV.out (by omega)).mono ?_; rintro e w3 ⟨A3, c3, rfl, hown3, hb3⟩; have HB3 := Lib.hid hb3; have HOWN3 := Lib.hid hown3; clear hb3 hown3)
          | (at_builtin; refine wpList_append_sees rfl (.tmp 30) (.tmp 37) 22 rfl w.heap.size 54 (.agg zeros4) 4 48 Try.underlying22 infoE rfl (by decide) (.slice B k cp) k cells rfl (own_alloc' (own_keep O1.out HB3.out) _) (some ⟨w3.heap.size, 0, none⟩) 1 1 ((entC (termN t ss (k + 1)) (i + 1 + k)).cells (.slice A3 1 c3)) rfl rfl (by have h9 := sees_new w3 #[.int .i64 tv, .int .i64 ((i : Int) + 1 + (k : Int)), .int .i64 2, .slice A3 1 c3] 54; rw [HCL.out]; exact h9) (cells_ones _ A3 1 c3) (by simp only [maxLen]; omega) (by omega) (by have := HB3.out.size; have := HBW.out.size; simp; omega) ?_; intro A4 c4 w4 hown4 hg4 hat4; have HOWN4 := Lib.hid hown4; have HG4 := Lib.hid hg4; clear hown4 hg4 hat4)
          | fail)
        have hal : Below w3.heap.size w3 (w3.alloc (.cells #[.int .i64 tv, .int .i64 ((i : Int) + 1 + (k : Int)), .int .i64 2, .slice A3 1 c3] 54)) := (Below.refl _ _).alloc (Nat.le_refl _) _
        have hb3' := below_step HB3.out HB3.out.size hal
        have ho4 := own_keep O1.out hb3'
        have hnx := OwnsE.snoc (x := entC (termN t ss (k + 1)) (i + 1 + k)) ho4 (O2.out.imp fun j y cs _ hl => hl.below hb3') ⟨A3, c3, rfl, own_lower (own_keep HOWN3.out hal) HBW.out.size⟩ HOWN4.out HG4.out
        have HNX := Lib.hid hnx
        have HB4 : Hid (Below w.heap.size w w4) := Lib.hid (below_grown_own (below_step HBW.out HBW.out.size hb3') (by have := HBW.out.size; have := hb3'.size; omega) ho4 (Nat.le_refl _) HG4.out)
        clear hal hb3' ho4 hnx
        go_roundw
        case rel => exact ⟨k + 1, A4, c4, by go_num, HTVV.out, rfl, hlt, by rw [rowsN_succ]; exact HNX.out, HB4.out⟩
        case measure => simp [intOf] <;> omega
      · have hksi : ¬ (k : Int) < (ns : Int) := by omega
        obtain ⟨tv, htv⟩ : ∃ tv : Int, tk = tv := ⟨_, rfl⟩
        have HTV : Hid ((termN t ss (k + 1) : Nat) = tv) := Lib.hid (by rw [termN_out (by rw [HSS.out]; omega), htk, htv])
        subst htv
        have HTVV : Hid (Value.int .i64 tk = .int .i64 (termN t ss (k + 1) : Nat)) := Lib.hid (by rw [HTV.out])
        have HCL : Hid (∀ A3 c3, (entC (termN t ss (k + 1)) (i + 1 + k)).cells (.slice A3 1 c3) = [.int .i64 tk, .int .i64 ((i : Int) + 1 + (k : Int)), .int .i64 2, .slice A3 1 c3]) := Lib.hid (fun A3 c3 => by
          unfold Ent.cells entC
          dsimp only
          rw [HTV.out, show ((i + 1 + k : Nat) : Int) = (i : Int) + 1 + (k : Int) by omega])
        clear htk htb
        have HTB : Hid (termN t ss (k + 1) ≤ 1000000) := Lib.hid (termN_le ht (by omega))
        go_wp2_with (first
          | (go_at_call 31; refine (entry_at (termN t ss (k + 1)) (i + 1 + k) tk ((i : Int) + 1 + (k : Int)) wr (by have := HTB.out; omega) HTV.out (by omega)).mono ?_; rintro e w3 ⟨A3, c3, rfl, hown3, hb3⟩; have HB3 := Lib.hid hb3; have HOWN3 := Lib.hid hown3; clear hb3 hown3)
          | (at_builtin; refine wpList_append_sees rfl (.tmp 30) (.tmp 37) 22 rfl w.heap.size 54 (.agg zeros4) 4 48 Try.underlying22 infoE rfl (by decide) (.slice B k cp) k cells rfl (own_alloc' (own_keep O1.out HB3.out) _) (some ⟨w3.heap.size, 0, none⟩) 1 1 ((entC (termN t ss (k + 1)) (i + 1 + k)).cells (.slice A3 1 c3)) rfl rfl (by have h9 := sees_new w3 #[.int .i64 tk, .int .i64 ((i : Int) + 1 + (k : Int)), .int .i64 2, .slice A3 1 c3] 54; rw [HCL.out]; exact h9) (cells_ones _ A3 1 c3) (by simp only [maxLen]; omega) (by omega) (by have := HB3.out.size; have := HBW.out.size; simp; omega) ?_; intro A4 c4 w4 hown4 hg4 hat4; have HOWN4 := Lib.hid hown4; have HG4 := Lib.hid hg4; clear hown4 hg4 hat4)
          | fail)
        have hal : Below w3.heap.size w3 (w3.alloc (.cells #[.int .i64 tk, .int .i64 ((i : Int) + 1 + (k : Int)), .int .i64 2, .slice A3 1 c3] 54)) := (Below.refl _ _).alloc (Nat.le_refl _) _
        have hb3' := below_step HB3.out HB3.out.size hal
        have ho4 := own_keep O1.out hb3'
        have hnx := OwnsE.snoc (x := entC (termN t ss (k + 1)) (i + 1 + k)) ho4 (O2.out.imp fun j y cs _ hl => hl.below hb3') ⟨A3, c3, rfl, own_lower (own_keep HOWN3.out hal) HBW.out.size⟩ HOWN4.out HG4.out
        have HNX := Lib.hid hnx
        have HB4 : Hid (Below w.heap.size w w4) := Lib.hid (below_grown_own (below_step HBW.out HBW.out.size hb3') (by have := HBW.out.size; have := hb3'.size; omega) ho4 (Nat.le_refl _) HG4.out)
        clear hal hb3' ho4 hnx
        go_roundw
        case rel => exact ⟨k + 1, A4, c4, by go_num, HTVV.out, rfl, hlt, by rw [rowsN_succ]; exact HNX.out, HB4.out⟩
        case measure => simp [intOf] <;> omega
    · obtain rfl : k = n := by omega
      have hki : ¬ (k : Int) < (k : Int) := by omega
      go_wp2_with fail
      go_ret
      exact ⟨B, cp, rfl, ⟨cells, O1.out, O2.out⟩, HBW.out⟩
end Go.Proofs.Ytlcnpfiiijehmaa
