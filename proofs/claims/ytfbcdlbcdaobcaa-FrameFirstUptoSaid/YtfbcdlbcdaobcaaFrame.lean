/-
  Package frame and its reference: the sum, numbers of four bytes, each by the plain function that it computes.
-/
import Derived.Test.YtfbcdlbcdaobcaaProg
import Derived.Test.YtfbcdlbcdaobcaaBytes
import Derived.Test.YtfbcdlbcdaobcaaCrc
import Derived.Lib.EndianBits
set_option linter.unusedVariables false
set_option linter.unusedSimpArgs false
namespace Go.Proofs.Ytfbcdlbcdaobcaa
open Go.RowKit

theorem u32_poly (y : Nat) (hy : y < 4294967296) : IntKind.u32.wrap (2197175160 * bits .and .u32 (y : Int) 1) = 2197175160 * ((y : Int) % 2) := by
  have h := u32_and_nat y 1 hy (by decide)
  rw [show ((1 : Nat) : Int) = 1 from rfl] at h
  rw [h, Nat.and_one_is_mod]
  have : y % 2 < 2 := Nat.mod_lt _ (by decide)
  simp only [IntKind.wrap, IntKind.bits, IntKind.signed]
  simp
  omega
theorem u32_one (y : Nat) (hy : y < 4294967296) : bits .and .u32 (y : Int) 1 = (y : Int) % 2 := by
  have h := u32_and_nat y 1 hy (by decide)
  rw [show ((1 : Nat) : Int) = 1 from rfl] at h
  rw [h, Nat.and_one_is_mod]
  omega
theorem u32_crcT (y : Nat) (hy : y < 4294967296) : bits .xor .u32 ((y : Int) / 2) (2197175160 * ((y : Int) % 2)) = ((crcT y : Nat) : Int) := by
  have : y % 2 < 2 := Nat.mod_lt _ (by decide)
  have h := u32_xor_nat (y / 2) (2197175160 * (y % 2)) (by omega) (by omega)
  unfold crcT
  rw [← h]
  rfl
theorem u32_not (s : Nat) (hs : s < 4294967296) : bits .xor .u32 IntKind.u32.max (s : Int) = ((s ^^^ 4294967295 : Nat) : Int) := by
  have h := u32_xor_nat 4294967295 s (by decide) hs
  rw [Nat.xor_comm, ← h]
  rfl

set_option maxHeartbeats 400000 in
theorem crc_any (A : Option Addr) (bs : List UInt8) (c : Nat) (w : World) (hc : bs.length ≤ c) (hl : bs.length ≤ 140737488355328) (h : Sees w A (u8s bs)) :
    Calls Try.prog 10 #[.slice A bs.length c] w fun e w' => e = .returned (.int .u32 (crc bs : Int)) ∧ w = w' := by
  have H := Lib.hid h
  clear h
  go_enter Try.func10, Try.ntmps10
  go_wp2
  go_loop [3, 8] (fun s i => ∃ k c : Nat, k ≤ bs.length ∧ i = .int .i64 k ∧ s = .int .u32 c ∧ c < 4294967296 ∧ Hid (c = crcF 4294967295 (bs.take k))) (fun _ i => bs.length - (intOf i).toNat)
  case atStart => exact ⟨0, 4294967295, Nat.zero_le _, rfl, rfl, by decide, rfl⟩
  case round =>
    obtain ⟨k, s, hk, rfl, rfl, hs, HS⟩ := hrel
    by_cases hlt : k < bs.length
    · obtain ⟨ad, rfl, hcell⟩ := u8_at H.out k hlt
      have hb : bs[k].toNat < 256 := bs[k].toNat_lt
      generalize hbb : bs[k].toNat = b at hcell hb
      have HB := Lib.hid hbb
      clear hbb
      have hx : s ^^^ b < 4294967296 := Nat.xor_lt_two_pow (n := 32) hs (by omega)
      go_wp2
      rw [u32_xor_nat s b hs (by omega)]
      generalize hxx : s ^^^ b = x at hx
      have HX := Lib.hid hxx
      clear hxx
      go_loop [3, 16] (fun s i => ∃ j c : Nat, j ≤ 8 ∧ i = .int .i64 j ∧ s = .int .u32 c ∧ c < 4294967296 ∧ Hid (c = crcK j x)) (fun _ i => 8 - (intOf i).toNat)
      case atStart => exact ⟨0, x, Nat.zero_le _, rfl, rfl, hx, Lib.hid rfl⟩
      case round =>
        obtain ⟨j, y, hj, rfl, rfl, hy, HY⟩ := hrel
        by_cases hj8 : j < 8
        · have e1 := u32_poly y hy
          have e2 := u32_crcT y hy
          go_wp2
          go_round
          case rel => exact ⟨j + 1, crcT y, by omega, by go_num, by first | rfl | rw [e2], crcT_lt y hy, Lib.hid (by rw [HY.out]; rfl)⟩
          case measure => simp [intOf]; omega
        · obtain rfl : j = 8 := by omega
          go_wp2
          go_round
          case rel => exact ⟨k + 1, y, by omega, by go_num, rfl, hy, Lib.hid (by rw [HY.out, ← HX.out, HS.out, ← HB.out, List.take_succ_eq_append_getElem hlt, crcF_snoc])⟩
          case measure => simp [intOf]; omega
    · have hk' : k = bs.length := by omega
      have HN : bits .xor .u32 IntKind.u32.max (s : Int) = ((crc bs : Nat) : Int) := by
        rw [show crc bs = s ^^^ 4294967295 from by rw [HS.out, hk', List.take_length]; rfl]
        exact u32_not s hs
      clear hk'
      go_wp2
      go_ret
      exact ⟨rfl, rfl⟩

theorem crc_at (A : Option Addr) (n c : Nat) (bs : List UInt8) (w : World) (hn : bs.length = n) (hc : n ≤ c) (hl : n ≤ 140737488355328) (h : Sees w A (u8s bs)) :
    Calls Try.prog 10 #[.slice A n c] w fun e w' => e = .returned (.int .u32 (crc bs : Int)) ∧ w = w' := by
  subst hn
  exact crc_any A bs c w hc hl h
set_option maxHeartbeats 400000 in
theorem refCrc_any (A : Option Addr) (bs : List UInt8) (c : Nat) (w : World) (hc : bs.length ≤ c) (hl : bs.length ≤ 140737488355328) (h : Sees w A (u8s bs)) :
    Calls Try.prog 11 #[.slice A bs.length c] w fun e w' => e = .returned (.int .u32 (crc bs : Int)) ∧ w = w' := by
  have H := Lib.hid h
  clear h
  go_enter Try.func11, Try.ntmps11
  go_wp2
  go_loop [3, 4] (fun s i => ∃ k c : Nat, k ≤ bs.length ∧ i = .int .i64 k ∧ s = .int .u32 c ∧ c < 4294967296 ∧ Hid (c = crcF 4294967295 (bs.take k))) (fun _ i => bs.length - (intOf i).toNat)
  case atStart => exact ⟨0, 4294967295, Nat.zero_le _, rfl, rfl, by decide, rfl⟩
  case round =>
    obtain ⟨k, s, hk, rfl, rfl, hs, HS⟩ := hrel
    by_cases hlt : k < bs.length
    · obtain ⟨ad, rfl, hcell⟩ := u8_at H.out k hlt
      have hb : bs[k].toNat < 256 := bs[k].toNat_lt
      generalize hbb : bs[k].toNat = b at hcell hb
      have HB := Lib.hid hbb
      clear hbb
      have hx : s ^^^ b < 4294967296 := Nat.xor_lt_two_pow (n := 32) hs (by omega)
      go_wp2
      rw [u32_xor_nat s b hs (by omega)]
      generalize hxx : s ^^^ b = x at hx
      have HX := Lib.hid hxx
      clear hxx
      go_loop [3, 5] (fun s i => ∃ j c : Nat, j ≤ 8 ∧ i = .int .i64 j ∧ s = .int .u32 c ∧ c < 4294967296 ∧ Hid (c = crcK j x)) (fun _ i => 8 - (intOf i).toNat)
      case atStart => exact ⟨0, x, Nat.zero_le _, rfl, rfl, hx, Lib.hid rfl⟩
      case round =>
        obtain ⟨j, y, hj, rfl, rfl, hy, HY⟩ := hrel
        by_cases hj8 : j < 8
        · by_cases hm : y % 2 = 1
          · have e1 : bits .and .u32 (y : Int) 1 = 1 := by rw [u32_one y hy]; omega
            have e2 : bits .xor .u32 ((y : Int) / 2) 2197175160 = ((crcT y : Nat) : Int) := by
              have := u32_crcT y hy
              rw [show (y : Int) % 2 = 1 from by omega] at this
              exact this
            clear hm
            go_wp2
            go_round
            case rel => exact ⟨j + 1, crcT y, by omega, by go_num, by first | rfl | rw [e2], crcT_lt y hy, Lib.hid (by rw [HY.out]; rfl)⟩
            case measure => simp [intOf]; omega
          · have e1 : bits .and .u32 (y : Int) 1 = 0 := by rw [u32_one y hy]; omega
            have e2 : crcT y = y / 2 := by unfold crcT; rw [show y % 2 = 0 from by omega]; simp
            have E2 := Lib.hid e2
            clear hm e2
            go_wp2
            go_round
            case rel => exact ⟨j + 1, y / 2, by omega, by go_num, by go_num, by omega, Lib.hid (by rw [← E2.out, HY.out]; rfl)⟩
            case measure => simp [intOf]; omega
        · obtain rfl : j = 8 := by omega
          go_wp2
          go_round
          case rel => exact ⟨k + 1, y, by omega, by go_num, rfl, hy, Lib.hid (by rw [HY.out, ← HX.out, HS.out, ← HB.out, List.take_succ_eq_append_getElem hlt, crcF_snoc])⟩
          case measure => simp [intOf]; omega
    · have hk' : k = bs.length := by omega
      have HN : bits .xor .u32 IntKind.u32.max (s : Int) = ((crc bs : Nat) : Int) := by
        rw [show crc bs = s ^^^ 4294967295 from by rw [HS.out, hk', List.take_length]; rfl]
        exact u32_not s hs
      clear hk'
      go_wp2
      go_ret
      exact ⟨rfl, rfl⟩

/-- Four bytes that are read. -/
theorem num4_reads {w : World} {A : Option Addr} {bs : List UInt8} (h : Sees w A (u8s bs)) (h4 : 4 ≤ bs.length) : ∃ (ad : Addr) (b0 b1 b2 b3 : Nat), A = some ad ∧ b0 < 256 ∧ b1 < 256 ∧ b2 < 256 ∧ b3 < 256 ∧
    num4 bs = b0 + 256 * b1 + 65536 * b2 + 16777216 * b3 ∧ w.cell? ad = some (.int .u8 b0) ∧ w.cell? ⟨ad.block, ad.off + 1, none⟩ = some (.int .u8 b1) ∧ w.cell? ⟨ad.block, ad.off + 2, none⟩ = some (.int .u8 b2) ∧ w.cell? ⟨ad.block, ad.off + 3, none⟩ = some (.int .u8 b3) := by
  obtain ⟨ad, rfl, c0⟩ := u8_at h 0 (by omega)
  obtain ⟨ad1, e1, c1⟩ := u8_at h 1 (by omega)
  obtain ⟨ad2, e2, c2⟩ := u8_at h 2 (by omega)
  obtain ⟨ad3, e3, c3⟩ := u8_at h 3 (by omega)
  cases e1; cases e2; cases e3
  rw [add_pos _ _ (by omega)] at c1 c2 c3
  refine ⟨ad, _, _, _, _, rfl, UInt8.toNat_lt _, UInt8.toNat_lt _, UInt8.toNat_lt _, UInt8.toNat_lt _, ?_, c0, c1, c2, c3⟩
  unfold num4
  simp only [List.getD_eq_getElem?_getD, List.getElem?_eq_getElem (show 0 < bs.length by omega), List.getElem?_eq_getElem (show 1 < bs.length by omega), List.getElem?_eq_getElem (show 2 < bs.length by omega), List.getElem?_eq_getElem (show 3 < bs.length by omega), Option.getD_some]

theorem ret_int {k : IntKind} {a b : Int} (h : a = b) : Ending.returned (.int k a) = .returned (.int k b) := by rw [h]
theorem num4_bits (b0 b1 b2 b3 : Nat) (l0 : b0 < 256) (l1 : b1 < 256) (l2 : b2 < 256) (l3 : b3 < 256) :
    bits .or .u32 (bits .or .u32 (bits .or .u32 (b0 : Int) ((b1 : Int) * 256)) ((b2 : Int) * 65536)) ((b3 : Int) * 16777216) = ((b0 + 256 * b1 + 65536 * b2 + 16777216 * b3 : Nat) : Int) := by
  rw [u32_or8 (b0 : Int) ((b1 : Int) * 256) (by omega) (by omega) (by omega) (by omega) (by omega), u32_or16 ((b0 : Int) + (b1 : Int) * 256) ((b2 : Int) * 65536) (by omega) (by omega) (by omega) (by omega) (by omega), u32_or24 ((b0 : Int) + (b1 : Int) * 256 + (b2 : Int) * 65536) ((b3 : Int) * 16777216) (by omega) (by omega) (by omega) (by omega) (by omega)]
  omega
set_option maxHeartbeats 1000000 in
theorem number_any (A : Option Addr) (bs : List UInt8) (c : Nat) (w : World) (h4 : 4 ≤ bs.length) (h : Sees w A (u8s bs)) :
    Calls Try.prog 28 #[.slice A bs.length c] w (RetQuiet w (.int .u32 (num4 bs : Int))) := by
  obtain ⟨ad, b0, b1, b2, b3, rfl, l0, l1, l2, l3, hn, c0, c1, c2, c3⟩ := num4_reads h h4
  clear h
  have HN := Lib.hid hn
  clear hn
  have i1 : (0 : Int) < (bs.length : Int) := by omega
  have i2 : (1 : Int) < (bs.length : Int) := by omega
  have i3 : (2 : Int) < (bs.length : Int) := by omega
  have i4 : (3 : Int) < (bs.length : Int) := by omega
  have j1 : 0 < bs.length := by omega
  have j2 : 1 < bs.length := by omega
  have j3 : 2 < bs.length := by omega
  have j4 : 3 < bs.length := by omega
  go_enter Try.func28, Try.ntmps28
  go_wp2
  go_quiet (fail)
  go_wp2
  go_ret
  exact ⟨ret_int (by rw [HN.out]; exact num4_bits b0 b1 b2 b3 l0 l1 l2 l3), _, rfl⟩
set_option maxHeartbeats 1000000 in
theorem refNumber_any (A : Option Addr) (bs : List UInt8) (c : Nat) (w : World) (h4 : 4 ≤ bs.length) (h : Sees w A (u8s bs)) :
    Calls Try.prog 24 #[.slice A bs.length c] w (RetQuiet w (.int .u32 (num4 bs : Int))) := by
  obtain ⟨ad, b0, b1, b2, b3, rfl, l0, l1, l2, l3, hn, c0, c1, c2, c3⟩ := num4_reads h h4
  clear h
  have HN := Lib.hid hn
  clear hn
  have i1 : (0 : Int) < (bs.length : Int) := by omega
  have i2 : (1 : Int) < (bs.length : Int) := by omega
  have i3 : (2 : Int) < (bs.length : Int) := by omega
  have i4 : (3 : Int) < (bs.length : Int) := by omega
  have j1 : 0 < bs.length := by omega
  have j2 : 1 < bs.length := by omega
  have j3 : 2 < bs.length := by omega
  have j4 : 3 < bs.length := by omega
  go_enter Try.func24, Try.ntmps24
  go_wp2
  go_quiet (fail)
  go_wp2
  go_ret
  exact ⟨ret_int (by rw [HN.out]; exact num4_bits b0 b1 b2 b3 l0 l1 l2 l3), _, rfl⟩
theorem number_at (A : Option Addr) (n c : Nat) (bs : List UInt8) (w : World) (hn : bs.length = n) (h4 : 4 ≤ n) (h : Sees w A (u8s bs)) :
    Calls Try.prog 28 #[.slice A n c] w (RetQuiet w (.int .u32 (num4 bs : Int))) := by
  subst hn
  exact number_any A bs c w h4 h
theorem refNumber_at (A : Option Addr) (n c : Nat) (bs : List UInt8) (w : World) (hn : bs.length = n) (h4 : 4 ≤ n) (h : Sees w A (u8s bs)) :
    Calls Try.prog 24 #[.slice A n c] w (RetQuiet w (.int .u32 (num4 bs : Int))) := by
  subst hn
  exact refNumber_any A bs c w h4 h
theorem crc_q (A : Option Addr) (n c : Nat) (bs : List UInt8) (w : World) (hn : bs.length = n) (hc : n ≤ c) (hl : n ≤ 140737488355328) (h : Sees w A (u8s bs)) :
    Calls Try.prog 10 #[.slice A n c] w (RetQuiet w (.int .u32 (crc bs : Int))) := by
  subst hn
  exact (crc_any A bs c w hc hl h).mono fun e w' ⟨h1, h2⟩ => ⟨h1, 0, h2.symm⟩
theorem refCrc_q (A : Option Addr) (n c : Nat) (bs : List UInt8) (w : World) (hn : bs.length = n) (hc : n ≤ c) (hl : n ≤ 140737488355328) (h : Sees w A (u8s bs)) :
    Calls Try.prog 11 #[.slice A n c] w (RetQuiet w (.int .u32 (crc bs : Int))) := by
  subst hn
  exact (refCrc_any A bs c w hc hl h).mono fun e w' ⟨h1, h2⟩ => ⟨h1, 0, h2.symm⟩

/-! ### numbers as bytes -/
def u32s (ns : List Nat) : List Value := ns.map fun (n : Nat) => Value.int .u32 (n : Int)
theorem u8_mod (n : Nat) : ((UInt8.ofNat (n % 256)).toNat : Int) = (n : Int) % 256 := by simp
theorem u8s_four (n : Nat) (h : n < 4294967296) : u8s (four n) = [.int .u8 ((n : Int) % 256), .int .u8 ((n : Int) / 256 % 256), .int .u8 ((n : Int) / 65536 % 256), .int .u8 ((n : Int) / 16777216)] := by
  simp [u8s, u8v, four]
  omega
set_option maxHeartbeats 1000000 in
theorem numbers_any (A : Option Addr) (ns : List Nat) (c : Nat) (w : World) (hc : ns.length ≤ c) (hl : ns.length ≤ 10000) (hn : ∀ n ∈ ns, n < 4294967296) (h : Sees w A (u32s ns)) :
    Calls Try.prog 25 #[.slice A ns.length c] w (RetOwn w 5 1 (ns.length * 4) (u8s (ns.flatMap four))) := by
  have H := Lib.hid h
  clear h
  have HN := Lib.hid hn
  clear hn
  go_enter Try.func25, Try.ntmps25
  go_wp2
  go_loopw [3, 8] (fun v i wr => ∃ k A' c', k ≤ ns.length ∧ i = .int .i64 (k : Nat) ∧ v = .slice A' (k * 4) c' ∧ wr.ownsRow w.heap.size 5 1 (.slice A' (k * 4) c') (k * 4) (u8s ((ns.take k).flatMap four)) ∧ Below w.heap.size w wr) (fun _ i _ => ns.length - (intOf i).toNat)
  case atStart => exact ⟨0, none, 0, Nat.zero_le _, rfl, rfl, ⟨rfl, .inl ⟨rfl, rfl⟩⟩, Below.refl _ _⟩
  case round =>
    obtain ⟨k, A', c', hk, rfl, rfl, hown, hb⟩ := hrel
    by_cases hlt : k < ns.length
    · obtain ⟨ad, rfl, hcell⟩ := (H.out.below hb) k (.int .u32 (ns[k] : Int)) (by simp [u32s, hlt])
      have hx := HN.out ns[k] (List.getElem_mem hlt)
      have HT := Lib.hid (List.take_succ_eq_append_getElem hlt)
      generalize ns[k] = n at hcell hx HT
      have HF := Lib.hid (u8s_four n hx)
      have hz := hb.size
      go_wp2_with (at_builtin; refine wpList_append_sees rfl (.tmp 12) (.tmp 24) 22 rfl w.heap.size 5 (.int .u8 0) 1 1 Try.underlying22 infoU8 rfl (by decide) (.slice A' (k * 4) c') (k * 4) (u8s ((ns.take k).flatMap four)) rfl (own_alloc' hown _) (some ⟨wr.heap.size, 0, none⟩) 4 4 (u8s (four n)) rfl rfl (by rw [HF.out]; exact sees_new _ _ _) (u8s_one _) (by simp only [maxLen]; omega) (by omega) (by simp; omega) ?_; intro A2 c2 w2 hown2 hg2 hat2)
      go_roundw
      case rel =>
        refine ⟨k + 1, A2, c2, by omega, by go_num, by rw [show (k + 1) * 4 = k * 4 + 4 from by omega], ?_, ?_⟩
        · rw [HT.out, show (k + 1) * 4 = k * 4 + 4 from by omega, List.flatMap_append, u8s_append]
          simpa using hown2
        · exact below_grown_own (hb.alloc hb.size _) (by simp; omega) (own_alloc' hown _) (Nat.le_refl _) hg2
      case measure => simp [intOf]; omega
    · obtain rfl : k = ns.length := by omega
      go_wp2
      go_ret
      exact ⟨A', c', rfl, by simpa using hown, hb⟩

/-! ### Put -/
/-- Two results, the first a row of the call's own. -/
def RetOwnE (w : World) (t size n : Nat) (xs : List Value) (err : Int) (e : Ending) (w' : World) : Prop :=
  ∃ A c, e = .returned (.tuple #[.slice A n c, .int .i64 err]) ∧ w'.ownsRow w.heap.size t size (.slice A n c) n xs ∧ Below w.heap.size w w'
/-- Beside an error there is nothing. -/
def RetErr (w : World) (err : Int) (e : Ending) (w' : World) : Prop := e = .returned (.tuple #[.slice none 0 0, .int .i64 err]) ∧ w = w'

theorem put_arg (A : Option Addr) (n c : Nat) (kind : Int) (w : World) (h : kind < 0 ∨ 255 < kind) :
    Calls Try.prog 18 #[.int .i64 kind, .slice A n c] w (RetErr w 1) := by
  rcases h with h | h
  · go_enter Try.func18, Try.ntmps18
    go_wp2
    go_ret2
    exact ⟨rfl, rfl⟩
  · have h' : ¬ kind < 0 := by omega
    go_enter Try.func18, Try.ntmps18
    go_wp2
    go_ret2
    exact ⟨rfl, rfl⟩
theorem put_size (A : Option Addr) (n c : Nat) (kind : Int) (w : World) (h0 : 0 ≤ kind) (h1 : kind ≤ 255) (h : 65536 < n) (hn : n ≤ 140737488355328) :
    Calls Try.prog 18 #[.int .i64 kind, .slice A n c] w (RetErr w 6) := by
  go_enter Try.func18, Try.ntmps18
  go_wp2
  go_ret2
  exact ⟨rfl, rfl⟩
set_option maxHeartbeats 1000000 in
theorem put_ok (A : Option Addr) (k : UInt8) (data : List UInt8) (c : Nat) (w : World) (hc : data.length ≤ c) (hn : data.length ≤ 65536) (h : Sees w A (u8s data)) :
    Calls Try.prog 18 #[.int .i64 (k.toNat : Int), .slice A data.length c] w (RetOwnE w 5 1 (data.length + 9) (u8s (frameB k data)) 0) := by
  have h1 : (k.toNat : Int) ≤ 255 := by have := k.toNat_lt; omega
  have h1' : k.toNat < 256 := k.toNat_lt
  have p2 := h.below ((Below.refl w.heap.size w).alloc (Nat.le_refl _) (.cells #[.int .u8 (k.toNat : Int)] 5))
  have P3 := Lib.hid (u8s_length data)
  clear h
  go_enter Try.func18, Try.ntmps18
  go_wp2_with (first
    | (at_builtin; refine wpList_append_sees rfl (.tmp 18) (.tmp 19) 22 rfl w.heap.size 5 (.int .u8 0) 1 1 Try.underlying22 infoU8 rfl (by decide) (.slice (some ⟨w.heap.size, 0, none⟩) 1 1) 1 (u8s [k]) rfl (own_lit w 5 (u8s [k]) 1 rfl) A data.length c (u8s data) rfl (by rw [P3.out]; simp) p2 (u8s_one _) (by simp only [maxLen]; omega) (by omega) (by simp) ?_; intro A1 c1 w1 hown1 hg1 hat1)
    | (go_at_call 10; refine (crc_at A1 (1 + data.length) c1 (k :: data) w1 (by simp; omega) (sees_own' hown1).2.1 (by omega) (sees_own' hown1).2.2.2).mono ?_; rintro e w' ⟨rfl, rfl⟩)
    | (go_at_call 25; go_loud (refine (numbers_any (some ⟨w1.heap.size, 0, none⟩) [data.length, crc (k :: data)] 2 _ (Nat.le_refl _) (by simp) (by intro n hn'; have := crc_lt (k :: data); simp at hn'; omega) (by exact sees_new _ _ _)).mono ?_); rintro e w2 ⟨A2, c2, rfl, hown2, hb2⟩)
    | (at_builtin; refine wpList_append_sees rfl (.tmp 27) (.tmp 28) 22 rfl w.heap.size 5 (.int .u8 0) 1 1 Try.underlying22 infoU8 rfl (by decide) (.slice A2 8 c2) 8 (u8s ([data.length, crc (k :: data)].flatMap four)) rfl (own_lower hown2 (by have := hg1.size; simp at this ⊢; omega)) A1 (1 + data.length) c1 (u8s (k :: data)) rfl (by simp [u8s]; omega) (((sees_own' hown1).2.2.2.below ((Below.refl _ _).alloc (Nat.le_refl _) _)).below hb2) (u8s_one _) (by simp only [maxLen]; omega) (by omega) (by have := hg1.size; have := hb2.size; simp at *; omega) ?_; intro A3 c3 w3 hown3 hg3 hat3)
    | fail)
  go_ret2
  have hB1 := below_grown_own ((Below.refl w.heap.size w).alloc (Nat.le_refl _) (.cells (u8s [k]).toArray 5)) (by simp) (own_lit w 5 (u8s [k]) 1 rfl) (Nat.le_refl _) hg1
  have hB2 := below_step (hB1.alloc hB1.size (.cells #[.int .u32 (data.length : Int), .int .u32 (crc (k :: data) : Int)] 24)) (by have := hB1.size; simp; omega) hb2
  have hown3' : w3.ownsRow w.heap.size 5 1 (.slice A3 (data.length + 9) c3) (data.length + 9) (u8s (frameB k data)) := by
    rw [show data.length + 9 = 8 + (1 + data.length) from by omega, show u8s (frameB k data) = u8s ([data.length, crc (k :: data)].flatMap four) ++ u8s (k :: data) from by rw [← u8s_append]; simp [frameB]]
    exact hown3
  refine ⟨A3, c3, ?_, hown3', ?_⟩
  · rw [show data.length + 9 = 8 + (1 + data.length) from by omega]; rfl
  · exact below_grown_own hB2 hB2.size (own_lower hown2 (by have := hB1.size; simp; omega)) (Nat.le_refl _) hg3
end Go.Proofs.Ytfbcdlbcdaobcaa
