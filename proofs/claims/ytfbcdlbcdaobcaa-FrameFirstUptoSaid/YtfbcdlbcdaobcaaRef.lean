/-
  The reference's Put and Size; frame.Size; the law FramePuts.
-/
import Derived.Test.YtfbcdlbcdaobcaaFrameLaws
set_option linter.unusedVariables false
set_option linter.unusedSimpArgs false
namespace Go.Proofs.Ytfbcdlbcdaobcaa
open Go.RowKit

theorem refFour_any (n : Nat) (w : World) (h : n < 4294967296) : Calls Try.prog 26 #[.int .u32 (n : Int)] w (RetOwn w 5 1 4 (u8s (four n))) := by
  have HF := Lib.hid (u8s_four n h)
  go_enter Try.func26, Try.ntmps26
  go_wp2
  go_ret
  refine ⟨some ⟨w.heap.size, 0, none⟩, 4, rfl, ?_, (Below.refl _ w).alloc (Nat.le_refl _) _⟩
  have := own_lit w 5 (u8s (four n)) 4 rfl
  rw [HF.out] at this ⊢
  exact this
theorem refPut_arg (A : Option Addr) (n c : Nat) (kind : Int) (w : World) (h : kind < 0 ∨ 255 < kind) :
    Calls Try.prog 19 #[.int .i64 kind, .slice A n c] w (RetErr w 1) := by
  rcases h with h | h
  · go_enter Try.func19, Try.ntmps19
    go_wp2
    go_ret2
    exact ⟨rfl, rfl⟩
  · have h' : ¬ kind < 0 := by omega
    go_enter Try.func19, Try.ntmps19
    go_wp2
    go_ret2
    exact ⟨rfl, rfl⟩
theorem refPut_size (A : Option Addr) (n c : Nat) (kind : Int) (w : World) (h0 : 0 ≤ kind) (h1 : kind ≤ 255) (h : 65536 < n) (hn : n ≤ 140737488355328) :
    Calls Try.prog 19 #[.int .i64 kind, .slice A n c] w (RetErr w 6) := by
  go_enter Try.func19, Try.ntmps19
  go_wp2
  go_ret2
  exact ⟨rfl, rfl⟩
theorem refCrc_n (A : Option Addr) (n c : Nat) (bs : List UInt8) (C : Nat) (hC : Hid (C = crc bs)) (w : World) (hn : bs.length = n) (hc : n ≤ c) (hl : n ≤ 140737488355328) (h : Sees w A (u8s bs)) :
    Calls Try.prog 11 #[.slice A n c] w (RetQuiet w (.int .u32 (C : Int))) := by
  rw [hC.out]
  exact refCrc_q A n c bs w hn hc hl h
set_option maxHeartbeats 400000 in
theorem refPut_ok (A : Option Addr) (k : UInt8) (data : List UInt8) (c : Nat) (w : World) (hc : data.length ≤ c) (hn : data.length ≤ 65536) (h : Sees w A (u8s data)) :
    Calls Try.prog 19 #[.int .i64 (k.toNat : Int), .slice A data.length c] w (RetOwnE w 5 1 (data.length + 9) (u8s (frameB k data)) 0) := by
  have h1 : (k.toNat : Int) ≤ 255 := by have := k.toNat_lt; omega
  have h1' : k.toNat < 256 := k.toNat_lt
  have p2 := h.below ((Below.refl w.heap.size w).alloc (Nat.le_refl _) (.cells #[.int .u8 (k.toNat : Int)] 5))
  have P3 := Lib.hid (u8s_length data)
  obtain ⟨C, hC⟩ : ∃ C, C = crc (k :: data) := ⟨_, rfl⟩
  have hC2 : C < 4294967296 := by rw [hC]; exact crc_lt _
  have HC := Lib.hid hC
  clear hC
  clear h
  go_enter Try.func19, Try.ntmps19
  go_wp2_with (first
    | (at_builtin; refine wpList_append_sees rfl (.tmp 18) (.tmp 19) 22 rfl w.heap.size 5 (.int .u8 0) 1 1 Try.underlying22 infoU8 rfl (by decide) (.slice (some ⟨w.heap.size, 0, none⟩) 1 1) 1 (u8s [k]) rfl (own_lit w 5 (u8s [k]) 1 rfl) A data.length c (u8s data) rfl (by rw [P3.out]; simp) p2 (u8s_one _) (by simp only [maxLen]; omega) (by omega) (by simp) ?_; intro A1 c1 w1 hown1 hg1 hat1; have hs1 : w.heap.size ≤ w1.heap.size := Nat.le_trans (by simp) hg1.size)
    | (go_at_call 26; have hx := hown2; go_loud (refine (refFour_any C _ hC2).mono ?_); rintro e w3 ⟨A3, c3, rfl, hown3, hb3⟩; have hs3 := hb3.size; have hown2' := own_keep (w := w2.drewN nq) hown2 hb3)
    | (go_at_call 26; go_loud (refine (refFour_any data.length _ (by omega)).mono ?_); rintro e w2 ⟨A2, c2, rfl, hown2, hb2⟩; have hs2 := hb2.size)
    | (go_at_call 11; go_loud (refine (refCrc_n A1 (1 + data.length) c1 (k :: data) C HC _ (by simp; omega) (sees_own' hown1).2.1 (by omega) (by exact ((sees_own' hown1).2.2.2.below hb2))).mono ?_); rintro e w' ⟨rfl, nq, rfl⟩)
    | (at_builtin; go_loud (refine wpList_append_sees rfl (.tmp 24) (.tmp 27) 22 rfl w1.heap.size 5 (.int .u8 0) 1 1 Try.underlying22 infoU8 rfl (by decide) (.slice A2 4 c2) 4 (u8s (four data.length)) rfl hown2' A3 4 c3 (u8s (four C)) rfl (by rw [u8s_length]; rfl) (sees_own' hown3).2.2.2 (u8s_one _) (by simp only [maxLen]; omega) (by omega) (Nat.le_trans hs2 hs3) ?_); intro A4 c4 w4 hown4 hg4 hat4; have hs4 := hg4.size; have hB14 := below_grown_own (below_step (below_draws hb2 nq) hs2 hb3) (Nat.le_trans hs2 hs3) hown2' (Nat.le_refl _) hg4)
    | (at_builtin; go_loud (refine wpList_append_sees rfl (.tmp 28) (.tmp 29) 22 rfl w.heap.size 5 (.int .u8 0) 1 1 Try.underlying22 infoU8 rfl (by decide) (.slice A4 8 c4) 8 (u8s (four data.length) ++ u8s (four C)) rfl (own_lower hown4 hs1) A1 (1 + data.length) c1 (u8s (k :: data)) rfl (by simp [u8s]; omega) ((sees_own' hown1).2.2.2.below hB14) (u8s_one _) (by simp only [maxLen]; omega) (by omega) (Nat.le_trans hs1 (Nat.le_trans hs2 (Nat.le_trans hs3 hs4))) ?_); intro A5 c5 w5 hown5 hg5 hat5)
    | fail)
  go_ret2
  have hB1 := below_grown_own ((Below.refl w.heap.size w).alloc (Nat.le_refl _) (.cells (u8s [k]).toArray 5)) (by simp) (own_lit w 5 (u8s [k]) 1 rfl) (Nat.le_refl _) hg1
  have hB4 := below_step hB1 hB1.size hB14
  have hown5' : w5.ownsRow w.heap.size 5 1 (.slice A5 (data.length + 9) c5) (data.length + 9) (u8s (frameB k data)) := by
    rw [show data.length + 9 = 8 + (1 + data.length) from by omega, show u8s (frameB k data) = u8s (four data.length) ++ u8s (four C) ++ u8s (k :: data) from by rw [HC.out, ← u8s_append, ← u8s_append]; simp [frameB]]
    exact hown5
  refine ⟨A5, c5, ?_, hown5', ?_⟩
  · rw [show data.length + 9 = 8 + (1 + data.length) from by omega]; rfl
  · exact below_grown_own hB4 hB4.size (own_lower hown4 hB1.size) (Nat.le_refl _) hg5
/-- What Size answers. -/
def sizeN (n : Int) : Int := if n < 0 ∨ 65536 < n then 0 else n + 9
theorem size_any (n : Int) (w : World) : Calls Try.prog 21 #[.int .i64 n] w fun e w' => e = .returned (.int .i64 (sizeN n)) ∧ w = w' := by
  by_cases h1 : n < 0
  · have hz : sizeN n = 0 := by rw [sizeN, if_pos (.inl h1)]
    go_enter Try.func21, Try.ntmps21
    go_wp2
    go_ret
    exact ⟨by first | rfl | (rw [hz]; rfl), rfl⟩
  · by_cases h2 : 65536 < n
    · have hz : sizeN n = 0 := by rw [sizeN, if_pos (.inr h2)]
      go_enter Try.func21, Try.ntmps21
      go_wp2
      go_ret
      exact ⟨by first | rfl | (rw [hz]; rfl), rfl⟩
    · have h3 : 0 ≤ n := by omega
      have h4 : n ≤ 65536 := by omega
      go_enter Try.func21, Try.ntmps21
      go_wp2
      go_ret
      exact ⟨by rw [sizeN, if_neg (by omega)]; exact ret_int (by omega), rfl⟩
theorem refSize_any (n : Int) (w : World) : Calls Try.prog 22 #[.int .i64 n] w fun e w' => e = .returned (.int .i64 (sizeN n)) ∧ w = w' := by
  by_cases h1 : n < 0
  · have hz : sizeN n = 0 := by rw [sizeN, if_pos (.inl h1)]
    go_enter Try.func22, Try.ntmps22
    go_wp2
    go_ret
    exact ⟨by first | rfl | (rw [hz]; rfl), rfl⟩
  · by_cases h2 : 65536 < n
    · have hz : sizeN n = 0 := by rw [sizeN, if_pos (.inr h2)]
      go_enter Try.func22, Try.ntmps22
      go_wp2
      go_ret
      exact ⟨by first | rfl | (rw [hz]; rfl), rfl⟩
    · have h3 : 0 ≤ n := by omega
      have h4 : n ≤ 65536 := by omega
      go_enter Try.func22, Try.ntmps22
      go_wp2
      go_ret
      exact ⟨by rw [sizeN, if_neg (by omega)]; exact ret_int (by omega), rfl⟩
theorem run_string_nil (w : World) : (convert 22 9 (.slice none 0 0)).run Try.prog w = .ok (.string (strB [])) w :=
  run_string_sees w _ _ _ Try.underlying22 Try.underlying5 Try.underlying9 _ _ _ [] rfl (Sees.nil _ _)
set_option maxHeartbeats 4000000 in
theorem framePuts_any (kind : Int) (A : Option Addr) (data : List UInt8) (c : Nat) (n : Int) (w : World) (hc : data.length ≤ c) (hl : data.length + 2 ≤ 140737488355328) (h : Sees w A (u8s data)) :
    Calls Try.prog 8 #[.int .i64 kind, .slice A data.length c, .int .i64 n] w (RetBool w true) := by
  have H := Lib.hid h
  clear h
  have qn := run_string_nil
  by_cases hk : kind < 0 ∨ 255 < kind
  · have HK := Lib.hid hk
    clear hk
    go_enter Try.func8, Try.ntmps8
    go_wp2_with (first
      | (go_at_call 9; go_loud (refine (lent_any A data c _ hc hl H.out).mono ?_); rintro e w1 ⟨g, c1, rfl, hown1, hb1⟩; have ho1 := sees_own' hown1)
      | (go_at_call 18; go_loud (refine (put_arg _ _ _ kind _ HK.out).mono ?_); rintro e w' ⟨rfl, rfl⟩)
      | (go_at_call 19; go_loud (refine (refPut_arg _ _ _ kind _ HK.out).mono ?_); rintro e w' ⟨rfl, rfl⟩)
      | (go_at_call 20; refine (num_any _ _).mono ?_; rintro e w' ⟨rfl, rfl⟩)
      | (go_at_call 21; go_loud (refine (size_any n _).mono ?_); rintro e w' ⟨rfl, rfl⟩)
      | (go_at_call 22; go_loud (refine (refSize_any n _).mono ?_); rintro e w' ⟨rfl, rfl⟩)
      | (go_at_call 12; go_loud (refine (stays_yes (some ⟨g, 0, none⟩) data.length c1 A data c _ (by exact ho1.2.1) (by exact ho1.2.2.1) hc hl (by exact ho1.2.2.2) (by exact H.out.below hb1)).mono ?_); rintro e w' ⟨rfl, nq, rfl⟩)
      | (go_at_call 13; go_loud (refine (knows_yes _).mono ?_); rintro e w4 ⟨rfl, hb4⟩)
      | fail)
    go_ret
    exact ⟨rfl, below_step (below_draws hb1 nq) hb1.size hb4⟩
  have hk0 : 0 ≤ kind := by omega
  have hk1 : kind ≤ 255 := by omega
  clear hk
  by_cases hs : 65536 < data.length
  · clear qn
    have qn := run_string_nil
    go_enter Try.func8, Try.ntmps8
    go_wp2_with (first
      | (go_at_call 9; go_loud (refine (lent_any A data c _ hc hl H.out).mono ?_); rintro e w1 ⟨g, c1, rfl, hown1, hb1⟩; have ho1 := sees_own' hown1)
      | (go_at_call 18; go_loud (refine (put_size _ _ _ kind _ hk0 hk1 hs (by omega)).mono ?_); rintro e w' ⟨rfl, rfl⟩)
      | (go_at_call 19; go_loud (refine (refPut_size _ _ _ kind _ hk0 hk1 hs (by omega)).mono ?_); rintro e w' ⟨rfl, rfl⟩)
      | (go_at_call 20; refine (num_any _ _).mono ?_; rintro e w' ⟨rfl, rfl⟩)
      | (go_at_call 21; go_loud (refine (size_any n _).mono ?_); rintro e w' ⟨rfl, rfl⟩)
      | (go_at_call 22; go_loud (refine (refSize_any n _).mono ?_); rintro e w' ⟨rfl, rfl⟩)
      | (go_at_call 12; go_loud (refine (stays_yes (some ⟨g, 0, none⟩) data.length c1 A data c _ (by exact ho1.2.1) (by exact ho1.2.2.1) hc hl (by exact ho1.2.2.2) (by exact H.out.below hb1)).mono ?_); rintro e w' ⟨rfl, nq, rfl⟩)
      | (go_at_call 13; go_loud (refine (knows_yes _).mono ?_); rintro e w4 ⟨rfl, hb4⟩)
      | fail)
    go_ret
    exact ⟨rfl, below_step (below_draws hb1 nq) hb1.size hb4⟩
  clear qn
  have hs' : data.length ≤ 65536 := by omega
  clear hs
  obtain ⟨k, rfl⟩ : ∃ k : UInt8, kind = (k.toNat : Int) := ⟨UInt8.ofNat kind.toNat, by rw [UInt8.toNat_ofNat', Nat.mod_eq_of_lt (by omega)]; omega⟩
  clear hk0 hk1
  have HF := Lib.hid (frameB_len k data)
  go_enter Try.func8, Try.ntmps8
  go_wp2_with (first
    | (go_at_call 9; go_loud (refine (lent_any A data c _ hc hl H.out).mono ?_); rintro e w1 ⟨g, c1, rfl, hown1, hb1⟩; have ho1 := sees_own' hown1; have hse1 : Sees w1 (some ⟨g, 0, none⟩) (u8s data) := by have := ho1.2.2.2.take data.length; rwa [← u8s_take, List.take_left' rfl] at this)
    | (go_at_call 18; go_loud (refine (put_ok (some ⟨g, 0, none⟩) k data c1 _ (by omega) hs' (by exact hse1)).mono ?_); rintro e w2 ⟨A2, c2, rfl, hown2, hb2⟩)
    | (go_at_call 19; go_loud (refine (refPut_ok A k data c _ hc hs' (by exact (H.out.below hb1).below hb2)).mono ?_); rintro e w3 ⟨A3, c3, rfl, hown3, hb3⟩; have q1 := run_string_sees w3 _ _ _ Try.underlying22 Try.underlying5 Try.underlying9 _ _ c2 (frameB k data) HF.out (sees_own' (own_keep hown2 hb3)).2.2.2; have q2 := run_string_sees w3 _ _ _ Try.underlying22 Try.underlying5 Try.underlying9 _ _ c3 (frameB k data) HF.out (sees_own' hown3).2.2.2)
    | (go_at_call 20; refine (num_any _ _).mono ?_; rintro e w' ⟨rfl, rfl⟩)
    | (go_at_call 21; go_loud (refine (size_any n _).mono ?_); rintro e w' ⟨rfl, rfl⟩)
    | (go_at_call 22; go_loud (refine (refSize_any n _).mono ?_); rintro e w' ⟨rfl, rfl⟩)
    | (go_at_call 12; go_loud (refine (stays_yes (some ⟨g, 0, none⟩) data.length c1 A data c _ (by exact ho1.2.1) (by exact ho1.2.2.1) hc hl (by exact (ho1.2.2.2.below hb2).below hb3) (by exact ((H.out.below hb1).below hb2).below hb3)).mono ?_); rintro e w' ⟨rfl, nq, rfl⟩)
    | (go_at_call 13; go_loud (refine (knows_yes _).mono ?_); rintro e w4 ⟨rfl, hb4⟩)
    | fail)
  go_ret
  have hB3 := below_step (below_step hb1 hb1.size hb2) (Nat.le_trans hb1.size hb2.size) hb3
  exact ⟨rfl, below_step (below_draws hB3 nq) hB3.size hb4⟩
end Go.Proofs.Ytfbcdlbcdaobcaa
