/-
  slices' stable sort at numbers: blocks; the two steps, told of intervals.
-/
import Derived.Test.YtbnbeailbhnbdaaSrt7
set_option linter.unusedVariables false
set_option linter.unusedSimpArgs false
namespace Go.Proofs.Ytbnbeailbhnbdaa
open Go.RowKit

/-- The numbers from a to n, in order block by block. -/
def blk (lt : Int → Int → Bool) (s n a : Nat) : List Int := if h : 0 < s ∧ a + s ≤ n then srtI lt a (a + s) ++ blk lt s n (a + s) else srtI lt a n
termination_by n - a
decreasing_by omega
section
variable {lt : Int → Int → Bool}
theorem blk_more {s n a b : Nat} (hs : 0 < s) (hb : a + s = b) (h : b ≤ n) : blk lt s n a = srtI lt a b ++ blk lt s n b := by
  subst hb
  rw [blk, dif_pos ⟨hs, h⟩]
theorem blk_last {s n a : Nat} (h : n < a + s) : blk lt s n a = srtI lt a n := by
  rw [blk, dif_neg (by omega)]
theorem srtI_nil (a : Nat) : srtI lt a a = [] := List.length_eq_zero_iff.1 (by rw [srtI_length, Nat.sub_self])
theorem blk_end {s n a : Nat} (ha : a ≤ n) (h : n ≤ a + s) : blk lt s n a = srtI lt a n := by
  rcases Nat.lt_or_ge n (a + s) with h1 | h1
  · exact blk_last h1
  · rcases Nat.eq_zero_or_pos s with h0 | h0
    · rw [blk, dif_neg (by omega)]
    · have : a + s = n := by omega
      rw [blk_more h0 this (Nat.le_refl _), blk_last (by omega), srtI_nil, List.append_nil]
theorem blk_length {s n : Nat} (hs : 0 < s) : ∀ d a, n - a ≤ d → a ≤ n → (blk lt s n a).length = n - a
  | 0, a, h, ha => by
    rw [blk_last (by omega), srtI_length]
  | d + 1, a, h, ha => by
    rcases Nat.lt_or_ge n (a + s) with h1 | h1
    · rw [blk_last h1, srtI_length]
    · rw [blk_more hs rfl h1, List.length_append, srtI_length, blk_length hs d (a + s) (by omega) h1]
      omega
end
/-- The row holds these numbers; nothing else has turned. -/
def RetArr2 (g : Nat) (ds : List Int) (w : World) (e : Ending) (w' : World) : Prop := e = .returned (.tuple #[]) ∧ ArrAt g ds w' ∧ Outside (· = g) w w'
section
variable {G : World → Prop} {g n p1 p2 : Nat} {lt : Int → Int → Bool} {w W : World}
theorem ins_call (hC : CmpOK G g (n : Int) p1 p2 lt) (ho : LO lt) {a b len : Nat} {Pre S : List Int} (hG : G w) (hO : Outside (· = g) w W) (h : ArrAt g (Pre ++ (ival a b ++ S)) W) (hP : Pre.length = a) (hab : a ≤ b) (hbn : b ≤ n) (hl : (Pre ++ (ival a b ++ S)).length = len) (hm : len ≤ 140737488355328) :
    Calls Try.prog 58 #[.slice (some ⟨g, 0, none⟩) len len, .int .i64 (a : Int), .int .i64 (b : Int), cmpV p1 p2] W (RetArr2 g (Pre ++ (srtI lt a b ++ S)) w) := by
  refine (insertion_any hC ho a b len Pre (ival a b) S W (hC.keep _ _ hG hO) h hP (by rw [ival_length]; omega) (ival_lt a b) (fun x hx => ?_) hl hm).mono ?_
  · have := mem_ival.1 hx
    omega
  · rintro e W' ⟨M, p, q, rfl, h1, h2⟩
    rw [srtI_of ho q p] at h1
    exact ⟨rfl, h1, hO.trans h2 (fun b _ hb => hb)⟩
theorem mrg_call (hC : CmpOK G g (n : Int) p1 p2 lt) (ho : LO lt) {a m b len : Nat} {Pre S : List Int} (hG : G w) (hO : Outside (· = g) w W) (h : ArrAt g (Pre ++ (srtI lt a m ++ (srtI lt m b ++ S))) W) (hP : Pre.length = a) (ham : a < m) (hmb : m < b) (hbn : b ≤ n) (hl : (Pre ++ (srtI lt a m ++ (srtI lt m b ++ S))).length = len) (hm : len ≤ 140737488355328) :
    Calls Try.prog 59 #[.slice (some ⟨g, 0, none⟩) len len, .int .i64 (a : Int), .int .i64 (m : Int), .int .i64 (b : Int), cmpV p1 p2] W (RetArr2 g (Pre ++ (srtI lt a b ++ S)) w) := by
  refine (sym_all hC ho len (b - a + 1) a m b Pre (srtI lt a m) (srtI lt m b) S W (by omega) (hC.keep _ _ hG hO) ⟨h, hP, ?_, ?_, ?_, ?_, srtI_srt ho _ _, srtI_srt ho _ _, ?_, ?_, ?_, hl, hm⟩).mono ?_
  · rw [srtI_length]; omega
  · rw [srtI_length]; omega
  · rw [srtI_length]; omega
  · rw [srtI_length]; omega
  · intro x hx y hy
    have := mem_srtI.1 hx
    have := mem_srtI.1 hy
    omega
  · intro x hx
    have := mem_srtI.1 hx
    omega
  · intro x hx
    have := mem_srtI.1 hx
    omega
  · rintro e W' ⟨M, p, q, rfl, h1, h2⟩
    rw [srtI_of ho q (p.trans (by rw [ival_split (a := a) (m := m) (b := b) (by omega) (by omega)]; exact (srtI_perm a m).append (srtI_perm m b)))] at h1
    exact ⟨rfl, h1, hO.trans h2 (fun b _ hb => hb)⟩
end
def StLoop1 (g n : Nat) (lt : Int → Int → Bool) (w : World) (s7 s8 : Value) (wr : World) : Prop :=
  ∃ (a b : Nat) (Pre : List Int), s7 = .int .i64 (a : Int) ∧ s8 = .int .i64 (b : Int) ∧ a + 20 = b ∧ Pre.length = a ∧ a ≤ n ∧ Pre ++ blk lt 20 n a = blk lt 20 n 0 ∧ ArrAt g (Pre ++ ival a n) wr ∧ Outside (· = g) w wr
def StLoop2 (g n : Nat) (lt : Int → Int → Bool) (w : World) (s6 : Value) (wr : World) : Prop :=
  ∃ (s : Nat), s6 = .int .i64 (s : Int) ∧ 0 < s ∧ s ≤ 2 * n + 20 ∧ ArrAt g (blk lt s n 0) wr ∧ Outside (· = g) w wr
def StLoop3 (g n s : Nat) (lt : Int → Int → Bool) (w : World) (s7 s8 : Value) (wr : World) : Prop :=
  ∃ (a b : Nat) (Pre : List Int), s7 = .int .i64 (a : Int) ∧ s8 = .int .i64 (b : Int) ∧ a + 2 * s = b ∧ Pre.length = a ∧ a ≤ n ∧ Pre ++ blk lt (2 * s) n a = blk lt (2 * s) n 0 ∧ ArrAt g (Pre ++ blk lt s n a) wr ∧ Outside (· = g) w wr
set_option maxHeartbeats 4000000 in
theorem stable_any {G : World → Prop} {g n p1 p2 : Nat} {lt : Int → Int → Bool} {w : World} (hC : CmpOK G g (n : Int) p1 p2 lt) (ho : LO lt) (hG : G w) (h : ArrAt g (ival 0 n) w) (hm : n ≤ 140737488355328) :
    Calls Try.prog 57 #[.slice (some ⟨g, 0, none⟩) n n, .int .i64 (n : Int), cmpV p1 p2] w (RetArr2 g (srtI lt 0 n) w) := by
  have HG := Lib.hid hG
  have HC := Lib.hid hC
  have HO := Lib.hid ho
  have HST : Hid (StLoop1 g n lt w (.int .i64 0) (.int .i64 20) w) := Lib.hid ⟨0, 20, [], rfl, rfl, rfl, rfl, Nat.zero_le _, rfl, h, Outside.refl _ _⟩
  clear hG hC ho h
  unfold cmpV
  go_enter Try.func57, Try.ntmps57
  go_wp2_with fail
  go_loopw [7, 8] (fun s7 s8 wr => StLoop1 g n lt w s7 s8 wr) (fun s7 _ _ => n + 1 - (intOf s7).toNat)
  case atStart => exact HST.out
  case round =>
    obtain ⟨a, b, Pre, rfl, rfl, hab, hP, han, hB, harr, hout⟩ := hrel
    have HP := Lib.hid hP
    have HB := Lib.hid hB
    have HA := Lib.hid harr
    have HOU := Lib.hid hout
    clear hP hB harr hout
    by_cases hlt : b ≤ n
    · have hbi : (b : Int) ≤ (n : Int) := by omega
      have hlen : (Pre ++ (ival a b ++ ival b n)).length = n := by simp only [List.length_append, ival_length]; have := HP.out; omega
      have HL := Lib.hid hlen
      have HA2 : Hid (ArrAt g (Pre ++ (ival a b ++ ival b n)) wr) := Lib.hid (by rw [← ival_split (by omega) hlt]; exact HA.out)
      have HB2 : Hid ((Pre ++ srtI lt a b) ++ blk lt 20 n b = blk lt 20 n 0) := Lib.hid (by rw [List.append_assoc, ← blk_more (by omega) hab hlt]; exact HB.out)
      clear hlen HA HB
      go_wp2_with (first
        | (go_at_call 58; refine (ins_call HC.out HO.out HG.out HOU.out HA2.out HP.out (by omega) hlt HL.out hm).mono ?_; rintro e w1 ⟨rfl, ha1, ho1⟩; have HA3 := Lib.hid ha1; have HO3 := Lib.hid ho1; clear ha1 ho1)
        | fail)
      go_roundw
      case rel =>
        refine ⟨b, b + 20, _, rfl, by go_num, rfl, ?_, hlt, HB2.out, ?_, HO3.out⟩
        · rw [List.length_append, srtI_length]; have := HP.out; omega
        · rw [List.append_assoc]; exact HA3.out
      case measure => simp [intOf] <;> omega
    · have hbi : ¬ (b : Int) ≤ (n : Int) := by omega
      have hlen : (Pre ++ (ival a n ++ [])).length = n := by simp only [List.length_append, ival_length, List.length_nil]; have := HP.out; omega
      have HL := Lib.hid hlen
      have HA2 : Hid (ArrAt g (Pre ++ (ival a n ++ [])) wr) := Lib.hid (by rw [List.append_nil]; exact HA.out)
      have HB2 : Hid (Pre ++ (srtI lt a n ++ []) = blk lt 20 n 0) := Lib.hid (by rw [List.append_nil, ← blk_last (s := 20) (by omega)]; exact HB.out)
      clear hlen HA HB
      go_wp2_with (first
        | (go_at_call 58; refine (ins_call HC.out HO.out HG.out HOU.out HA2.out HP.out han (Nat.le_refl _) HL.out hm).mono ?_; rintro e w1 ⟨rfl, ha1, ho1⟩; have HA3 := Lib.hid ha1; have HO3 := Lib.hid ho1; clear ha1 ho1)
        | fail)
      have HST2 : Hid (StLoop2 g n lt w (.int .i64 20) w1) := Lib.hid ⟨20, rfl, by omega, by omega, by rw [← HB2.out]; exact HA3.out, HO3.out⟩
      clear HA2 HB2 HL HA3 HO3 HOU HP
      go_loopw [6] (fun s6 wr => StLoop2 g n lt w s6 wr) (fun s6 _ => n + 1 - (intOf s6).toNat)
      case atStart => exact HST2.out
      case round =>
        obtain ⟨s, rfl, hs0, hsn, harr, hout⟩ := hrel
        by_cases hlt : s < n
        · have hsi : (s : Int) < (n : Int) := by omega
          have HST3 : Hid (StLoop3 g n s lt w (.int .i64 0) (.int .i64 (2 * (s : Int))) wr) := Lib.hid ⟨0, 2 * s, [], rfl, by go_num, by omega, rfl, Nat.zero_le _, rfl, harr, hout⟩
          clear harr hout
          go_wp2_with fail
          obtain ⟨wo, hwo⟩ : ∃ wo : World, wo = wr := ⟨_, rfl⟩
          rw [← hwo] at HST3 ⊢
          clear hwo
          go_loopw [7, 8] (fun s7 s8 wr => StLoop3 g n s lt w s7 s8 wr) (fun s7 _ _ => n + 1 - (intOf s7).toNat)
          case atStart => exact HST3.out
          case round =>
            obtain ⟨a, b, Pre, rfl, rfl, hab, hP, han, hB, harr, hout⟩ := hrel
            have HP := Lib.hid hP
            have HB := Lib.hid hB
            have HA := Lib.hid harr
            have HOU := Lib.hid hout
            obtain ⟨m, hm1⟩ : ∃ m, a + s = m := ⟨_, rfl⟩
            have em : (a : Int) + (s : Int) = (m : Int) := by omega
            clear hP hB harr hout
            by_cases hlt2 : b ≤ n
            · have hbi : (b : Int) ≤ (n : Int) := by omega
              have HA2 : Hid (ArrAt g (Pre ++ (srtI lt a m ++ (srtI lt m b ++ blk lt s n b))) wr) := Lib.hid (by rw [← blk_more (s := s) hs0 (by omega) hlt2, ← blk_more hs0 hm1 (by omega)]; exact HA.out)
              have hlen : (Pre ++ (srtI lt a m ++ (srtI lt m b ++ blk lt s n b))).length = n := by simp only [List.length_append, srtI_length, blk_length hs0 (n - b) b (Nat.le_refl _) hlt2]; have := HP.out; omega
              have HL := Lib.hid hlen
              have HB2 : Hid ((Pre ++ srtI lt a b) ++ blk lt (2 * s) n b = blk lt (2 * s) n 0) := Lib.hid (by rw [List.append_assoc, ← blk_more (by omega) hab hlt2]; exact HB.out)
              clear hlen HA HB
              go_wp2_with (first
                | (go_at_call 59; refine (mrg_call HC.out HO.out HG.out HOU.out HA2.out HP.out (by omega) (by omega) hlt2 HL.out hm).mono ?_; rintro e w2 ⟨rfl, ha1, ho1⟩; have HA3 := Lib.hid ha1; have HO3 := Lib.hid ho1; clear ha1 ho1)
                | fail)
              go_roundw
              case rel =>
                refine ⟨b, b + 2 * s, _, rfl, by go_num, rfl, ?_, hlt2, HB2.out, ?_, HO3.out⟩
                · rw [List.length_append, srtI_length]; have := HP.out; omega
                · rw [List.append_assoc]; exact HA3.out
              case measure => simp [intOf] <;> omega
            · have hbi : ¬ (b : Int) ≤ (n : Int) := by omega
              have HB2 : Hid (Pre ++ srtI lt a n = blk lt (2 * s) n 0) := Lib.hid (by rw [← blk_last (s := 2 * s) (by omega)]; exact HB.out)
              by_cases hlt3 : m < n
              · have hmi : (m : Int) < (n : Int) := by omega
                have HA2 : Hid (ArrAt g (Pre ++ (srtI lt a m ++ (srtI lt m n ++ []))) wr) := Lib.hid (by rw [List.append_nil, ← blk_last (s := s) (n := n) (a := m) (by omega), ← blk_more hs0 hm1 (by omega)]; exact HA.out)
                have hlen : (Pre ++ (srtI lt a m ++ (srtI lt m n ++ []))).length = n := by simp only [List.length_append, srtI_length, List.length_nil]; have := HP.out; omega
                have HL := Lib.hid hlen
                clear hlen HA HB
                go_wp2_with (first
                  | (go_at_call 59; refine (mrg_call HC.out HO.out HG.out HOU.out HA2.out HP.out (by omega) hlt3 (Nat.le_refl _) HL.out hm).mono ?_; rintro e w2 ⟨rfl, ha1, ho1⟩; have HA3 := Lib.hid ha1; have HO3 := Lib.hid ho1; clear ha1 ho1)
                  | fail)
                go_roundw
                case rel =>
                  refine ⟨s * 2, by go_num, by omega, by omega, ?_, HO3.out⟩
                  rw [Nat.mul_comm s 2, ← HB2.out]
                  simpa using HA3.out
                case measure => simp [intOf] <;> omega
              · have hmi : ¬ (m : Int) < (n : Int) := by omega
                go_wp2_with fail
                go_roundw
                case rel =>
                  refine ⟨s * 2, by go_num, by omega, by omega, ?_, HOU.out⟩
                  rw [Nat.mul_comm s 2, ← HB2.out, ← blk_end (s := s) han (by omega)]
                  exact HA.out
                case measure => simp [intOf] <;> omega
        · have hsi : ¬ (s : Int) < (n : Int) := by omega
          have HA := Lib.hid harr
          have HOU := Lib.hid hout
          clear harr hout
          go_wp2_with fail
          go_end0
          refine ⟨rfl, ?_, HOU.out⟩
          rw [← blk_end (s := s) (Nat.zero_le _) (by omega)]
          exact HA.out
end Go.Proofs.Ytbnbeailbhnbdaa
