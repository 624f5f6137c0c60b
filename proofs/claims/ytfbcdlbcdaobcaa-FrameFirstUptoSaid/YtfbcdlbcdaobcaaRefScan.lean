/-
  The reference's Scan computes the plain scan.
-/
import Derived.Test.YtfbcdlbcdaobcaaRef
import Derived.Test.YtfbcdlbcdaobcaaStep
set_option linter.unusedVariables false
set_option linter.unusedSimpArgs false
namespace Go.Proofs.Ytfbcdlbcdaobcaa
open Go.RowKit

/-- What the reference's Scan hands back. -/
def RetScanR (w : World) (bs : List UInt8) (e : Ending) (w' : World) : Prop :=
  ∃ A c cells, e = .returned (.tuple #[.slice A (scan bs).length c, .int .i64 (size (scan bs) : Int), .bool (decide (size (scan bs) = bs.length))]) ∧
    w'.ownsRow w.heap.size 57 2 (.slice A (scan bs).length c) (scan bs).length cells ∧ Recs (frOwn w.heap.size) 2 w' (scan bs) cells ∧ Below w.heap.size w w'
/-- Between two rounds. -/
def refRel (w : World) (bs : List UInt8) (out at_ : Value) (W : World) : Prop :=
  ∃ k pos A' c' cells, out = .slice A' k c' ∧ at_ = .int .i64 ((pos : Nat) : Int) ∧ k ≤ (scan bs).length ∧ Hid (pos = size ((scan bs).take k)) ∧ Hid (scan (bs.drop pos) = (scan bs).drop k) ∧ pos ≤ bs.length ∧
    W.ownsRow w.heap.size 57 2 (.slice A' k c') k cells ∧ Recs (frOwn w.heap.size) 2 W ((scan bs).take k) cells ∧ Below w.heap.size w W
theorem infoRefFrame : (Try.prog.info? 57).map (fun i => (i.zero, i.size, i.bytes)) = some (some (.agg #[.int .i64 0, .slice none 0 0]), 2, 32) := by kernel_rfl
theorem num4_take (l : List UInt8) : num4 (l.take 4) = num4 l := by
  unfold num4
  simp [List.getD_eq_getElem?_getD, List.getElem?_take]
theorem refNumber_n (A : Option Addr) (n c : Nat) (bs : List UInt8) (N : Nat) (hN : Hid (N = num4 bs)) (w : World) (hn : bs.length = n) (h4 : 4 ≤ n) (h : Sees w A (u8s bs)) :
    Calls Try.prog 24 #[.slice A n c] w (RetQuiet w (.int .u32 (N : Int))) := by
  rw [hN.out]
  exact refNumber_at A n c bs w hn h4 h
/-- The end of the loop. -/
theorem refScan_end {w : World} {bs : List UInt8} {k pos : Nat} {A' : Option Addr} {c' : Nat} {cells : List Value} {W : World} (hk : k ≤ (scan bs).length) (HP : Hid (pos = size ((scan bs).take k))) (HS : Hid (scan (bs.drop pos) = (scan bs).drop k))
    (hown : W.ownsRow w.heap.size 57 2 (.slice A' k c') k cells) (hrec : Recs (frOwn w.heap.size) 2 W ((scan bs).take k) cells) (hb : Below w.heap.size w W) (hone : one (bs.drop pos) = none) :
    RetScanR w bs (.returned (.tuple #[.slice A' k c', .int .i64 (pos : Int), .bool (decide ((pos : Int) = (bs.length : Int)))])) W := by
  have h1 := HS.out
  rw [scan_none hone] at h1
  have h2 := congrArg List.length h1
  simp at h2
  obtain rfl : k = (scan bs).length := by omega
  have h3 := HP.out
  rw [List.take_length] at h3 hrec
  subst h3
  exact ⟨A', c', cells, by simp [Int.ofNat_inj], hown, hrec, hb⟩

set_option maxHeartbeats 2000000 in
theorem refScan_any (A : Option Addr) (bs : List UInt8) (c : Nat) (w : World) (hc : bs.length ≤ c) (hcm : c ≤ maxLen) (hl' : bs.length ≤ 1099511627776) (hs : Sees w A (u8s bs)) :
    Calls Try.prog 15 #[.slice A bs.length c] w (RetScanR w bs) := by
  have hl : bs.length ≤ 140737488355328 := by omega
  have H := Lib.hid hs
  clear hs
  go_enter Try.func15, Try.ntmps15
  go_wp2
  go_loopw [5, 6] (fun out at_ wr => refRel w bs out at_ wr) (fun _ at_ _ => bs.length - (intOf at_).toNat)
  case atStart => exact ⟨0, 0, none, 0, [], rfl, rfl, Nat.zero_le _, Lib.hid (by simp [size]), Lib.hid rfl, Nat.zero_le _, ⟨rfl, .inl ⟨rfl, rfl⟩⟩, Recs.nil, Below.refl _ _⟩
  case round =>
    obtain ⟨k, pos, A', c', cells, rfl, rfl, hk, HP, HS, hpos, hown, hrec, hb⟩ := hrel
    obtain ⟨rb, hrb⟩ : ∃ rb, bs.drop pos = rb := ⟨_, rfl⟩
    have hrl : rb.length = bs.length - pos := by rw [← hrb, List.length_drop]
    simp only [maxLen] at hcm
    by_cases h9 : bs.length < pos + 9
    · have e1 := Lib.hid (one_no9 (show rb.length < 9 by omega))
      have i1 : (bs.length : Int) - (pos : Int) < 9 := by omega
      go_wp2
      go_ret3
      rw [← hrb] at e1
      exact refScan_end hk HP HS hown hrec hb e1.out
    have hp9 : pos + 9 ≤ bs.length := by omega
    clear h9
    obtain ⟨ad, rfl⟩ : ∃ ad, A = some ad := by
      obtain ⟨ad, e, _⟩ := u8_at H.out 0 (by omega)
      exact ⟨ad, e⟩
    have hsr : Sees w (some (ad.add pos)) (u8s rb) := by
      rw [← hrb, u8s_drop]
      exact H.out.drop pos
    have i1 : (9 : Int) ≤ (bs.length : Int) - (pos : Int) := by omega
    obtain ⟨n, hn⟩ : ∃ n, n = num4 rb := ⟨_, rfl⟩
    have hn32 : n < 4294967296 := by rw [hn]; exact num4_lt rb
    have HN := Lib.hid hn
    obtain ⟨X4, hR4, hX4⟩ := slice_at (P := Try.prog) 22 (by kernel_rfl) (by kernel_rfl) ad bs.length c pos (pos + 4) 4 (pos : Int) ((pos : Int) + 4) rfl (by omega) (by omega) (by omega) (by omega) (by omega)
    subst hX4
    have s4 : Sees w (some (ad.add pos)) (u8s (rb.take 4)) := by rw [u8s_take]; exact hsr.take 4
    have l4 := Lib.hid (show (rb.take 4).length = 4 by rw [List.length_take]; omega)
    have HN4 : Hid (n = num4 (rb.take 4)) := Lib.hid (by rw [num4_take]; exact hn)
    by_cases hbig : 65536 < n
    · have e1 := Lib.hid (one_big (rb := rb) (by omega) (.inl (by omega)))
      clear hn
      go_wp2_with (go_at_call 24; go_loud (refine (refNumber_n (some (ad.add pos)) 4 (c - pos) (rb.take 4) n HN4 _ l4.out (by omega) (s4.below hb)).mono ?_); rintro e w' ⟨rfl, nq, rfl⟩)
      go_ret3
      rw [← hrb] at e1
      exact refScan_end (W := wr.drewN nq) hk HP HS hown hrec (below_draws hb nq) e1.out
    by_cases hlen : bs.length < pos + 9 + n
    · have e1 := Lib.hid (one_big (rb := rb) (by omega) (.inr (by omega)))
      have i2 : (bs.length : Int) - (pos : Int) - 9 < (n : Int) := by omega
      clear hn
      go_wp2_with (go_at_call 24; go_loud (refine (refNumber_n (some (ad.add pos)) 4 (c - pos) (rb.take 4) n HN4 _ l4.out (by omega) (s4.below hb)).mono ?_); rintro e w' ⟨rfl, nq, rfl⟩)
      go_ret3
      rw [← hrb] at e1
      exact refScan_end (W := wr.drewN nq) hk HP HS hown hrec (below_draws hb nq) e1.out
    have i2 : (n : Int) ≤ (bs.length : Int) - (pos : Int) - 9 := by omega
    obtain ⟨X8, hR8, hX8⟩ := slice_at (P := Try.prog) 22 (by kernel_rfl) (by kernel_rfl) ad bs.length c (pos + 8) (pos + 9 + n) (n + 1) ((pos : Int) + 8) ((pos : Int) + 9 + (n : Int)) (by omega) (by omega) (by omega) (by omega) (by omega) (by omega)
    obtain ⟨X5, hR5, hX5⟩ := slice_at (P := Try.prog) 22 (by kernel_rfl) (by kernel_rfl) ad bs.length c (pos + 4) (pos + 8) 4 ((pos : Int) + 4) ((pos : Int) + 8) (by omega) (by omega) (by omega) (by omega) (by omega) (by omega)
    rw [add_pos _ _ (by omega)] at hX8 hX5
    subst hX8 hX5
    have s8 : Sees w (some ⟨ad.block, ad.off + (pos + 8), none⟩) (u8s ((rb.drop 8).take (n + 1))) := by
      rw [u8s_take, u8s_drop, ← add_pos _ _ (by omega), ← add_at]
      exact (hsr.drop 8).take _
    have s5 : Sees w (some ⟨ad.block, ad.off + (pos + 4), none⟩) (u8s ((rb.drop 4).take 4)) := by
      rw [u8s_take, u8s_drop, ← add_pos _ _ (by omega), ← add_at]
      exact (hsr.drop 4).take _
    have s9 : Sees w (some ⟨ad.block, ad.off + (pos + 9), none⟩) (u8s ((rb.drop 9).take n)) := by
      rw [u8s_take, u8s_drop, ← add_pos _ _ (by omega), ← add_at]
      exact (hsr.drop 9).take _
    have l8 := Lib.hid (show ((rb.drop 8).take (n + 1)).length = n + 1 by rw [List.length_take, List.length_drop]; omega)
    have l5 := Lib.hid (show ((rb.drop 4).take 4).length = 4 by rw [List.length_take, List.length_drop]; omega)
    obtain ⟨cc, hcc⟩ : ∃ cc, cc = crc ((rb.drop 8).take (n + 1)) := ⟨_, rfl⟩
    obtain ⟨ss, hss⟩ : ∃ ss, ss = num4 (rb.drop 4) := ⟨_, rfl⟩
    have hcc32 : cc < 4294967296 := by rw [hcc]; exact crc_lt _
    have hss32 : ss < 4294967296 := by rw [hss]; exact num4_lt _
    have HC := Lib.hid hcc
    have HSS : Hid (ss = num4 ((rb.drop 4).take 4)) := Lib.hid (by rw [num4_take]; exact hss)
    have k1 : IntKind.i64.wrap ((pos : Int) + 4) = (pos : Int) + 4 := IntWalk.i64_in _ (by omega)
    have k2 : IntKind.i64.wrap ((pos : Int) + 8) = (pos : Int) + 8 := IntWalk.i64_in _ (by omega)
    have q1 : n + 1 ≤ c - (pos + 8) := by omega
    have q2 : n + 1 ≤ 140737488355328 := by omega
    by_cases hsum : cc = ss
    case neg =>
      have e1 := Lib.hid (one_sum (rb := rb) (by omega) (by omega) (by rw [← hn, ← hcc, ← hss]; exact hsum))
      have b1 : ((cc : Int) != (ss : Int)) = true := by simp; omega
      have b2 : (cc != ss) = true := by simp; omega
      clear hsum hcc hss hn
      go_wp2_with (go_at_call 24; go_loud (refine (refNumber_n (some (ad.add pos)) 4 (c - pos) (rb.take 4) n HN4 _ l4.out (by omega) (s4.below hb)).mono ?_); rintro e w' ⟨rfl, nq0, rfl⟩)
      go_quiet (first
        | (go_at_call 11; go_loud (exact quiet_at (refCrc_n _ _ (c - (pos + 8)) ((rb.drop 8).take (n + 1)) cc HC _ l8.out q1 q2 ((s8.below hb).drewN _))))
        | (go_at_call 24; exact quiet_at (refNumber_n _ _ _ ((rb.drop 4).take 4) ss HSS _ l5.out (by decide) ((s5.below hb).drewN _))))
      go_wp2
      go_ret3
      rw [← hrb] at e1
      exact refScan_end (W := wr.drewN (nq0 + nq)) hk HP HS hown hrec (below_draws hb (nq0 + nq)) e1.out
    have hone := Lib.hid (one_yes (rb := rb) (by omega) (by omega) (by rw [← hn, ← hcc, ← hss]; exact hsum))
    rw [← hn] at hone
    have b1 : ((cc : Int) != (ss : Int)) = false := by simp; omega
    have b2 : (cc != ss) = false := by simp; omega
    clear hsum hcc hss hn
    go_wp2_with (go_at_call 24; go_loud (refine (refNumber_n (some (ad.add pos)) 4 (c - pos) (rb.take 4) n HN4 _ l4.out (by omega) (s4.below hb)).mono ?_); rintro e w' ⟨rfl, nq0, rfl⟩)
    go_quiet (first
      | (go_at_call 11; go_loud (exact quiet_at (refCrc_n _ _ (c - (pos + 8)) ((rb.drop 8).take (n + 1)) cc HC _ l8.out q1 q2 ((s8.below hb).drewN _))))
      | (go_at_call 24; exact quiet_at (refNumber_n _ _ _ ((rb.drop 4).take 4) ss HSS _ l5.out (by decide) ((s5.below hb).drewN _))))
    go_wp2
    obtain ⟨kb, hkb⟩ : ∃ kb, rb.getD 8 0 = kb := ⟨_, rfl⟩
    obtain ⟨kn, hkn⟩ : ∃ kn, kb.toNat = kn := ⟨_, rfl⟩
    have hk256 : kn < 256 := by rw [← hkn]; exact kb.toNat_lt
    obtain ⟨data, hdata⟩ : ∃ data, (rb.drop 9).take n = data := ⟨_, rfl⟩
    have hdl := Lib.hid (show data.length = n by rw [← hdata, List.length_take, List.length_drop]; omega)
    rw [hkb, hdata] at hone
    have hk8 : wr.cell? ⟨ad.block, ad.off + (pos + 8), none⟩ = some (.int .u8 (kn : Int)) := by
      obtain ⟨ad', e, hc⟩ := u8_at (hsr.below hb) 8 (by omega)
      cases e
      rw [add_at, add_pos _ _ (by omega)] at hc
      rw [hc, ← hkn, ← hkb]
      simp [List.getD_eq_getElem?_getD, List.getElem?_eq_getElem (show 8 < rb.length by omega)]
    have s9' := s9.below hb
    rw [hdata] at s9'
    have HKB := Lib.hid hkb
    have HKN := Lib.hid hkn
    clear hkb hkn hdata
    obtain ⟨W, hW⟩ : ∃ W, (wr.drewN nq0).drewN nq = W := ⟨_, rfl⟩
    have hownW : W.ownsRow w.heap.size 57 2 (.slice A' k c') k cells := by rw [← hW]; exact hown
    have hrecW : Recs (frOwn w.heap.size) 2 W ((scan bs).take k) cells := by rw [← hW]; exact hrec
    have hbW : Below w.heap.size w W := by rw [← hW]; exact below_draws (below_draws hb nq0) nq
    have hk8W : W.cell? ⟨ad.block, ad.off + (pos + 8), none⟩ = some (.int .u8 (kn : Int)) := by rw [← hW]; exact hk8
    have s9W : Sees W (some ⟨ad.block, ad.off + (pos + 9), none⟩) (u8s data) := by rw [← hW]; exact s9'
    rw [hW]
    clear hown hrec hb hk8 s9' hW s4 s8 s5 hR4 hR5 hR8 l4 l5 l8 HN4 HC HSS
    have hWs := hbW.size
    obtain ⟨Y, hR9, hY9⟩ := slice_rest (P := Try.prog) 22 (by kernel_rfl) (by kernel_rfl) ⟨ad.block, ad.off + (pos + 8), none⟩ (n + 1) (c - (pos + 8)) 1 n 1 rfl (by omega) (by omega)
    have hYs : Sees W (some Y) (u8s data) := by
      rw [hY9]
      split
      · have h0 : data.length = 0 := by rw [hdl.out]; omega
        rw [List.eq_nil_of_length_eq_zero h0]
        exact Sees.nil _ _
      · rw [add_raw]
        exact s9W
    clear hY9
    have hS : ∀ W', Below W.heap.size W W' → W'.cell? ⟨ad.block, ad.off + (pos + 8), none⟩ = some (.int .u8 (kn : Int)) := fun W' hb' => (hb'.cell (World.block_lt_of_cell? W _ hk8W)).trans hk8W
    have hk8w : w.cell? ⟨ad.block, ad.off + (pos + 8), none⟩ = some (.int .u8 (kn : Int)) := by
      obtain ⟨ad', e, hc'⟩ := u8_at hsr 8 (by omega)
      cases e
      rw [add_at, add_pos _ _ (by omega)] at hc'
      have h2 := (hbW.cell (World.block_lt_of_cell? w _ hc')).trans hc'
      rw [hk8W] at h2
      rw [hc', ← h2]
    have hS0 : ∀ W', Below w.heap.size w W' → W'.cell? ⟨ad.block, ad.off + (pos + 8), none⟩ = some (.int .u8 (kn : Int)) := fun W' hb' => (hb'.cell (World.block_lt_of_cell? w _ hk8w)).trans hk8w
    have hkk : k ≤ 1099511627776 := by
      have h1 : (scan bs).length * 9 ≤ size (scan bs) := size_ge _
      have h2 := scan_le _ bs (Nat.le_refl _)
      omega
    have hba : Below W.heap.size W (W.alloc (.cells #[] 5)).drew := ((Below.refl _ _).alloc (Nat.le_refl _) _).drew
    have hba' : Below W.heap.size W (W.alloc (.cells #[] 5)) := (Below.refl _ _).alloc (Nat.le_refl _) _
    have hwk : IntKind.i64.wrap (kn : Int) = (kn : Int) := IntWalk.i64_in _ (by omega)
    have i01 : (0 : Int) < ((n + 1 : Nat) : Int) := by omega
    have i02 : 0 < n + 1 := by omega
    go_region_held3 (fun W' => W'.cell? ⟨ad.block, ad.off + (pos + 8), none⟩ = some (.int .u8 (kn : Int))) (first
        | exact hk8W
        | exact hS _ hba
        | exact hS _ hba'
        | exact hS _ hb3
        | exact hS _ (hb3.alloc hb3.size _)
        | exact hS0 _ hb5)
      (first
        | ((refine step_append_sees rfl (.tmp 56) (.tmp 58) 22 (by rfl) W.heap.size 5 (.int .u8 0) 1 1 Try.underlying22 infoU8 rfl (by decide) (.slice (some ⟨W.heap.size, 0, none⟩) 0 0) 0 [] (by rfl) (by exact own_made0 W 5 1) (some Y) n (c - (pos + 8) - 1) (u8s data) (by rfl) (by rw [u8s_length, hdl.out, Nat.mul_one]) (by exact hYs.below hba) (u8s_one _) (by simp only [maxLen]; omega) (by omega) (by simp) ?_); intro A3 c3 W3 hown3 hg3 hat3; have hb3 : Below W.heap.size W W3 := below_grown_own hba (by simp) (own_made0 W 5 1) (Nat.le_refl _) hg3; have hb13 := below_step hbW hWs hb3; simp only [Nat.zero_add, List.nil_append] at hown3)
        | (have hx := hb3; (refine step_append_sees rfl (.tmp 51) (.tmp 61) 32 (by rfl) w.heap.size 57 (.agg #[.int .i64 0, .slice none 0 0]) 2 32 Try.underlying32 infoRefFrame rfl (by decide) (.slice A' k c') k cells (by rfl) (by exact own_alloc' (own_keep hownW hb3) _) (some ⟨W3.heap.size, 0, none⟩) 1 1 [.int .i64 (kn : Int), .slice A3 n c3] (by rfl) (by rfl) (by exact sees_new _ _ _) (by simp [Value.oneCell']) (by simp only [maxLen]; omega) (by omega) (by have := hb3.size; simp; omega) ?_); intro A5 c5 W5 hown5 hg5 hat5; have hb5 : Below w.heap.size w W5 := (by first | exact below_grown_own (hb13.alloc hb13.size _) (by have := hb13.size; simp; omega) (own_alloc' (own_keep hownW hb3) _) (Nat.le_refl _) hg5 | exact below_grown_own (hb13.alloc hb13.size _).drew (by have := hb13.size; simp; omega) (own_alloc' (own_keep hownW hb3) _) (Nat.le_refl _) hg5)))
    go_wp2
    have hscan : scan rb = (kb, data) :: scan (rb.drop (n + 9)) := by rw [scan_some hone.out, hdl.out]
    have hdr : (scan bs).drop k = (kb, data) :: scan (rb.drop (n + 9)) := by rw [← HS.out, hrb, hscan]
    have hxk : (scan bs)[k]? = some (kb, data) := by
      have := congrArg (fun l => l[0]?) hdr
      simpa using this
    have hkl := List.getElem?_eq_some_iff.1 hxk
    have htk : (scan bs).take (k + 1) = (scan bs).take k ++ [(kb, data)] := by rw [List.take_succ_eq_append_getElem hkl.1, hkl.2]
    have hsz1 : pos + 9 + n = size ((scan bs).take (k + 1)) := by
      rw [htk, size_append, ← HP.out, size_cons, hdl.out]
      simp only [size, List.map_nil, List.sum_nil]
      omega
    have hrest : scan (bs.drop (pos + 9 + n)) = (scan bs).drop (k + 1) := by
      have h5 := congrArg List.tail hdr
      rw [List.tail_cons, List.tail_drop] at h5
      rw [h5, ← hrb, List.drop_drop]
      congr 2
      omega
    have HT := Lib.hid htk
    have HS1 := Lib.hid hsz1
    have HR := Lib.hid hrest
    clear hscan hdr hxk htk hsz1 hrest
    go_roundw
    case rel =>
      have hk3 := own_alloc' (own_keep hownW hb3) (.cells #[.int .i64 (kn : Int), .slice A3 n c3] 57)
      refine ⟨k + 1, pos + 9 + n, A5, c5, _, rfl, by go_num, hkl.1, HS1, HR, by omega, by exact hown5, ?_, by exact hb5⟩
      rw [HT.out]
      refine (hrecW.imp fun j y cs _ hR => ?_).snoc rfl ⟨A3, c3, by rw [hdl.out, HKN.out], by rw [hdl.out]; exact own_apart (own_alloc' (own_lower hown3 hWs) _) hk3 (by decide) hg5⟩
      obtain ⟨A'', c'', e, ho⟩ := hR
      exact ⟨A'', c'', e, own_apart (own_alloc' (own_keep ho hb3) _) hk3 (by decide) hg5⟩
    case measure => simp [intOf]; omega
end Go.Proofs.Ytfbcdlbcdaobcaa
