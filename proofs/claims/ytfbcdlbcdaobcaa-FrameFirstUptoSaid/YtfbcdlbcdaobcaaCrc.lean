/-
  Plain arithmetic: CRC-32C bit by bit; frames as bytes and read again. No program is named here.
-/
set_option linter.unusedVariables false
set_option linter.unusedSimpArgs false
namespace Go.Proofs.Ytfbcdlbcdaobcaa

theorem xor_rc {a b c : Nat} (h : a ^^^ c = b ^^^ c) : a = b := by
  have := congrArg (· ^^^ c) h
  simpa [Nat.xor_assoc] using this
theorem xor_lc {a b c : Nat} (h : c ^^^ a = c ^^^ b) : a = b := xor_rc (c := c) (by rw [Nat.xor_comm a, Nat.xor_comm b]; exact h)
def crcT (c : Nat) : Nat := (c / 2) ^^^ (2197175160 * (c % 2))
theorem crcT_lt (c : Nat) (h : c < 4294967296) : crcT c < 4294967296 := by
  unfold crcT
  have : c % 2 < 2 := Nat.mod_lt _ (by decide)
  exact Nat.xor_lt_two_pow (n := 32) (by omega) (by omega)
theorem crcT_half (c : Nat) (h : c < 4294967296) : crcT c / 2147483648 = c % 2 := by
  unfold crcT
  have hx : ∀ a b : Nat, (a ^^^ b) / 2147483648 = (a / 2147483648) ^^^ (b / 2147483648) := fun a b => by
    have := Nat.shiftRight_xor_distrib (a := a) (b := b) (i := 31)
    simpa [Nat.shiftRight_eq_div_pow] using this
  rw [hx]
  have h1 : c / 2 / 2147483648 = 0 := by omega
  rw [h1, Nat.zero_xor]
  have : c % 2 = 0 ∨ c % 2 = 1 := by omega
  rcases this with h | h <;> rw [h]
theorem crcT_inj (a b : Nat) (ha : a < 4294967296) (hb : b < 4294967296) (h : crcT a = crcT b) : a = b := by
  have h1 : a % 2 = b % 2 := by rw [← crcT_half a ha, ← crcT_half b hb, h]
  have h2 : a / 2 = b / 2 := by
    have := h
    unfold crcT at this
    rw [h1] at this
    exact xor_rc this
  omega
def crcK : Nat → Nat → Nat
  | 0, c => c
  | k + 1, c => crcT (crcK k c)
theorem crcK_lt (k c : Nat) (h : c < 4294967296) : crcK k c < 4294967296 := by
  induction k with
  | zero => exact h
  | succ k ih => exact crcT_lt _ ih
theorem crcK_inj (k a b : Nat) (ha : a < 4294967296) (hb : b < 4294967296) (h : crcK k a = crcK k b) : a = b := by
  induction k with
  | zero => exact h
  | succ k ih => exact ih (crcT_inj _ _ (crcK_lt k a ha) (crcK_lt k b hb) h)
def crcF (c : Nat) (bs : List UInt8) : Nat := bs.foldl (fun c b => crcK 8 (c ^^^ b.toNat)) c
theorem crcF_snoc (c : Nat) (bs : List UInt8) (b : UInt8) : crcF c (bs ++ [b]) = crcK 8 (crcF c bs ^^^ b.toNat) := by simp [crcF]
theorem crcF_cons (c : Nat) (bs : List UInt8) (b : UInt8) : crcF c (b :: bs) = crcF (crcK 8 (c ^^^ b.toNat)) bs := rfl
theorem xor_u8_lt (c : Nat) (b : UInt8) (h : c < 4294967296) : c ^^^ b.toNat < 4294967296 := Nat.xor_lt_two_pow (n := 32) h (by have := b.toNat_lt; omega)
theorem crcF_lt (bs : List UInt8) : ∀ c, c < 4294967296 → crcF c bs < 4294967296 := by
  induction bs with
  | nil => exact fun c h => h
  | cons b bs ih => exact fun c h => ih _ (crcK_lt 8 _ (xor_u8_lt c b h))
theorem crcF_inj (bs : List UInt8) : ∀ a b, a < 4294967296 → b < 4294967296 → crcF a bs = crcF b bs → a = b := by
  induction bs with
  | nil => exact fun a b _ _ h => h
  | cons x bs ih =>
    intro a b ha hb h
    have h1 := ih _ _ (crcK_lt 8 _ (xor_u8_lt a x ha)) (crcK_lt 8 _ (xor_u8_lt b x hb)) h
    exact xor_rc (crcK_inj 8 _ _ (xor_u8_lt a x ha) (xor_u8_lt b x hb) h1)
/-- One byte is another one: so is the state behind. -/
theorem crcF_set (bs : List UInt8) : ∀ (c k : Nat) (y : UInt8), c < 4294967296 → ∀ h : k < bs.length, bs[k] ≠ y → crcF c (bs.set k y) ≠ crcF c bs := by
  induction bs with
  | nil => intro c k y _ h; simp at h
  | cons x bs ih =>
    intro c k y hc h hne
    cases k with
    | zero =>
      intro he
      have h1 := crcF_inj bs _ _ (crcK_lt 8 _ (xor_u8_lt c y hc)) (crcK_lt 8 _ (xor_u8_lt c x hc)) he
      have h2 := crcK_inj 8 _ _ (xor_u8_lt c y hc) (xor_u8_lt c x hc) h1
      have h3 := xor_lc h2
      exact hne (UInt8.toNat_inj.1 h3.symm)
    | succ k =>
      exact ih _ k y (crcK_lt 8 _ (xor_u8_lt c x hc)) (by simpa using h) (by simpa using hne)
def crc (bs : List UInt8) : Nat := crcF 4294967295 bs ^^^ 4294967295
theorem crc_lt (bs : List UInt8) : crc bs < 4294967296 := Nat.xor_lt_two_pow (n := 32) (crcF_lt bs _ (by decide)) (by decide)
theorem crc_set (bs : List UInt8) (k : Nat) (y : UInt8) (h : k < bs.length) (hne : bs[k] ≠ y) : crc (bs.set k y) ≠ crc bs := fun he =>
  crcF_set bs _ k y (by decide) h hne (xor_rc he)

/-! ### numbers of four bytes -/
def four (n : Nat) : List UInt8 := [UInt8.ofNat (n % 256), UInt8.ofNat (n / 256 % 256), UInt8.ofNat (n / 65536 % 256), UInt8.ofNat (n / 16777216 % 256)]
def num4 (l : List UInt8) : Nat := (l.getD 0 0).toNat + 256 * (l.getD 1 0).toNat + 65536 * (l.getD 2 0).toNat + 16777216 * (l.getD 3 0).toNat
theorem four_len (n : Nat) : (four n).length = 4 := rfl
theorem num4_lt (l : List UInt8) : num4 l < 4294967296 := by
  unfold num4
  have h0 := (l.getD 0 0).toNat_lt
  have h1 := (l.getD 1 0).toNat_lt
  have h2 := (l.getD 2 0).toNat_lt
  have h3 := (l.getD 3 0).toNat_lt
  omega
theorem num4_four (n : Nat) (h : n < 4294967296) (more : List UInt8) : num4 (four n ++ more) = n := by
  simp [num4, four]
  omega
theorem num4_inj (a b : List UInt8) (ha : 4 ≤ a.length) (hb : 4 ≤ b.length) (h : num4 a = num4 b) : a.take 4 = b.take 4 := by
  unfold num4 at h
  have a0 := (a.getD 0 0).toNat_lt
  have a1 := (a.getD 1 0).toNat_lt
  have a2 := (a.getD 2 0).toNat_lt
  have a3 := (a.getD 3 0).toNat_lt
  have b0 := (b.getD 0 0).toNat_lt
  have b1 := (b.getD 1 0).toNat_lt
  have b2 := (b.getD 2 0).toNat_lt
  have b3 := (b.getD 3 0).toNat_lt
  have e0 : (a.getD 0 0).toNat = (b.getD 0 0).toNat := by omega
  have e1 : (a.getD 1 0).toNat = (b.getD 1 0).toNat := by omega
  have e2 : (a.getD 2 0).toNat = (b.getD 2 0).toNat := by omega
  have e3 : (a.getD 3 0).toNat = (b.getD 3 0).toNat := by omega
  have f0 := UInt8.toNat_inj.1 e0
  have f1 := UInt8.toNat_inj.1 e1
  have f2 := UInt8.toNat_inj.1 e2
  have f3 := UInt8.toNat_inj.1 e3
  match a, b with
  | x0 :: x1 :: x2 :: x3 :: _, y0 :: y1 :: y2 :: y3 :: _ => simp at f0 f1 f2 f3; simp [f0, f1, f2, f3]
  | [], _ | [_], _ | [_, _], _ | [_, _, _], _ => simp at ha
  | _ :: _ :: _ :: _ :: _, [] | _ :: _ :: _ :: _ :: _, [_] | _ :: _ :: _ :: _ :: _, [_, _] | _ :: _ :: _ :: _ :: _, [_, _, _] => simp at hb

/-! ### a frame -/
def frameB (kind : UInt8) (data : List UInt8) : List UInt8 := four data.length ++ (four (crc (kind :: data)) ++ (kind :: data))
theorem frameB_len (kind : UInt8) (data : List UInt8) : (frameB kind data).length = data.length + 9 := by simp [frameB, four_len]; omega
/-- The one frame that stands at the beginning, if there is one. -/
def one (b : List UInt8) : Option (UInt8 × List UInt8) :=
  if b.length < 9 then none
  else if 65536 < num4 b ∨ b.length - 9 < num4 b then none
  else if crc ((b.drop 8).take (num4 b + 1)) ≠ num4 (b.drop 4) then none
  else some (b.getD 8 0, (b.drop 9).take (num4 b))
theorem one_len {b : List UInt8} {k : UInt8} {d : List UInt8} (h : one b = some (k, d)) : d.length + 9 ≤ b.length ∧ d.length = num4 b := by
  unfold one at h
  split at h
  · cases h
  · split at h
    · cases h
    · split at h
      · cases h
      · rename_i h1 h2 _
        simp only [Option.some.injEq, Prod.mk.injEq] at h
        obtain ⟨_, rfl⟩ := h
        simp only [not_or, Nat.not_lt] at h1 h2
        simp only [List.length_take, List.length_drop]
        omega
def scan (b : List UInt8) : List (UInt8 × List UInt8) :=
  match h : one b with
  | none => []
  | some (k, d) => (k, d) :: scan (b.drop (d.length + 9))
termination_by b.length
decreasing_by
  have := one_len h
  simp only [List.length_drop]
  omega
theorem scan_none {b : List UInt8} (h : one b = none) : scan b = [] := by
  rw [scan]
  split
  · rfl
  · rename_i h'
    rw [h] at h'
    cases h'
theorem scan_some {b : List UInt8} {k : UInt8} {d : List UInt8} (h : one b = some (k, d)) : scan b = (k, d) :: scan (b.drop (d.length + 9)) := by
  rw [scan]
  split
  · rename_i h'
    rw [h] at h'
    cases h'
  · rename_i h'
    rw [h] at h'
    cases h'
    rfl
def size (l : List (UInt8 × List UInt8)) : Nat := (l.map fun f => f.2.length + 9).sum
theorem size_cons (f : UInt8 × List UInt8) (l : List (UInt8 × List UInt8)) : size (f :: l) = f.2.length + 9 + size l := by simp [size]
theorem size_append (a b : List (UInt8 × List UInt8)) : size (a ++ b) = size a + size b := by simp [size]
def enc (l : List (UInt8 × List UInt8)) : List UInt8 := l.flatMap fun f => frameB f.1 f.2
theorem enc_cons (f : UInt8 × List UInt8) (l : List (UInt8 × List UInt8)) : enc (f :: l) = frameB f.1 f.2 ++ enc l := by simp [enc]
theorem enc_append (a b : List (UInt8 × List UInt8)) : enc (a ++ b) = enc a ++ enc b := by simp [enc]
theorem enc_len (l : List (UInt8 × List UInt8)) : (enc l).length = size l := by
  induction l with
  | nil => rfl
  | cons f l ih => rw [enc_cons, size_cons, List.length_append, frameB_len, ih]
theorem one_frame (k : UInt8) (d more : List UInt8) (hd : d.length ≤ 65536) : one (frameB k d ++ more) = some (k, d) := by
  have hn : num4 (frameB k d ++ more) = d.length := by
    unfold frameB
    rw [List.append_assoc]
    exact num4_four _ (by omega) _
  have h8 : (frameB k d ++ more).drop 8 = (k :: d) ++ more := by simp [frameB, four]
  have h4 : (frameB k d ++ more).drop 4 = four (crc (k :: d)) ++ ((k :: d) ++ more) := by simp [frameB, four]
  have h9 : (frameB k d ++ more).drop 9 = d ++ more := by simp [frameB, four]
  have hk : (frameB k d ++ more).getD 8 0 = k := by simp [frameB, four]
  have hl : (frameB k d ++ more).length = d.length + 9 + more.length := by rw [List.length_append, frameB_len]
  unfold one
  rw [hn, h8, h4, h9, hk, if_neg (by omega), if_neg (by omega), num4_four _ (crc_lt _)]
  have : ((k :: d) ++ more).take (d.length + 1) = k :: d := by simp
  rw [this, if_neg (by simp)]
  simp
theorem scan_enc (l : List (UInt8 × List UInt8)) (more : List UInt8) (h : ∀ f ∈ l, f.2.length ≤ 65536) : scan (enc l ++ more) = l ++ scan more := by
  induction l with
  | nil => rfl
  | cons f l ih =>
    rw [enc_cons, List.append_assoc, scan_some (one_frame f.1 f.2 _ (h f List.mem_cons_self))]
    rw [show f.2.length + 9 = (frameB f.1 f.2).length from (frameB_len _ _).symm, List.drop_left, ih (fun g hg => h g (List.mem_cons_of_mem _ hg))]
    rfl
theorem scan_le : ∀ (n : Nat) (b : List UInt8), b.length ≤ n → size (scan b) ≤ b.length := by
  intro n
  induction n with
  | zero =>
    intro b hb
    rw [scan_none (by unfold one; rw [if_pos (by omega)])]
    simp [size]
  | succ n ih =>
    intro b hb
    cases h : one b with
    | none => rw [scan_none h]; simp [size]
    | some f =>
      obtain ⟨k, d⟩ := f
      have h1 := one_len h
      rw [scan_some h, size_cons]
      have h2 := ih (b.drop (d.length + 9)) (by simp only [List.length_drop]; omega)
      simp only [List.length_drop] at h2
      simp only
      omega

/-! ### cut off -/
theorem one_cut (k : UInt8) (d : List UInt8) (hd : d.length ≤ 65536) (c : Nat) (hc : c < d.length + 9) : one ((frameB k d).take c) = none := by
  have hl : ((frameB k d).take c).length = c := by rw [List.length_take, frameB_len]; omega
  unfold one
  rw [hl]
  by_cases h9 : c < 9
  · rw [if_pos h9]
  · rw [if_neg h9]
    have hn : num4 ((frameB k d).take c) = d.length := by
      unfold frameB
      rw [List.take_append, four_len, List.take_of_length_le (by rw [four_len]; omega)]
      exact num4_four _ (by omega) _
    rw [hn, if_pos (.inr (by omega))]
/-- How many frames end at or below a cut. -/
def upto : List (UInt8 × List UInt8) → Nat → Nat
  | [], _ => 0
  | f :: l, c => if f.2.length + 9 ≤ c then upto l (c - (f.2.length + 9)) + 1 else 0
theorem upto_le : ∀ (l : List (UInt8 × List UInt8)) (c : Nat), upto l c ≤ l.length
  | [], _ => Nat.le_refl _
  | f :: l, c => by
    unfold upto
    split
    · have := upto_le l (c - (f.2.length + 9)); simp; omega
    · simp
theorem scan_cut (l : List (UInt8 × List UInt8)) : ∀ c, (∀ f ∈ l, f.2.length ≤ 65536) → c ≤ size l → scan ((enc l).take c) = l.take (upto l c) := by
  induction l with
  | nil => intro c h hc; simp [enc, scan_none (show one [] = none from rfl)]
  | cons f l ih =>
    intro c h hc
    rw [size_cons] at hc
    rw [enc_cons, List.take_append]
    unfold upto
    split
    · rename_i hle
      rw [List.take_of_length_le (by rw [frameB_len]; omega), scan_some (one_frame f.1 f.2 _ (h f List.mem_cons_self)), frameB_len]
      rw [show f.2.length + 9 = (frameB f.1 f.2).length from (frameB_len _ _).symm, List.drop_left, frameB_len, ih _ (fun g hg => h g (List.mem_cons_of_mem _ hg)) (by omega)]
      rfl
    · rename_i hgt
      have h0 : c - (frameB f.1 f.2).length = 0 := by rw [frameB_len]; omega
      rw [h0, List.take_zero, List.append_nil, scan_none (one_cut f.1 f.2 (h f List.mem_cons_self) c (by omega))]
      simp
theorem size_upto (l : List (UInt8 × List UInt8)) : ∀ c, size (l.take (upto l c)) ≤ c := by
  induction l with
  | nil => intro c; simp [size]
  | cons f l ih =>
    intro c
    unfold upto
    split
    · rw [List.take_succ_cons, size_cons]
      have := ih (c - (f.2.length + 9))
      omega
    · simp [size]
/-- The place n is counted just where the first n frames end at or below the cut. -/
theorem upto_iff (l : List (UInt8 × List UInt8)) : ∀ c i, i < l.length → (i < upto l c ↔ size (l.take (i + 1)) ≤ c) := by
  induction l with
  | nil => intro c i hi; simp at hi
  | cons f l ih =>
    intro c i hi
    rw [List.take_succ_cons, size_cons]
    unfold upto
    split
    · cases i with
      | zero => simp [size]; omega
      | succ i =>
        have := ih (c - (f.2.length + 9)) i (by simpa using hi)
        omega
    · omega

/-! ### rot -/
/-- A byte behind the length is another one: no frame stands there. -/
theorem one_rot (k : UInt8) (d more : List UInt8) (hd : d.length ≤ 65536) (i : Nat) (y : UInt8) (h4 : 4 ≤ i) (hi : i < d.length + 9) (hne : (frameB k d).getD i 0 ≠ y) :
    one ((frameB k d).set i y ++ more) = none := by
  have hs : ∀ (a b : List UInt8) (j : Nat), a.length ≤ j → (a ++ b).set j y = a ++ b.set (j - a.length) y := fun a b j hj => by rw [List.set_append, if_neg (by omega)]
  have hset : (frameB k d).set i y = four d.length ++ (four (crc (k :: d)) ++ (k :: d)).set (i - 4) y := by
    unfold frameB
    rw [hs _ _ _ (by rw [four_len]; omega), four_len]
  rw [hset]
  generalize htl : (four (crc (k :: d)) ++ (k :: d)).set (i - 4) y = tl
  have htll : tl.length = d.length + 5 := by rw [← htl]; simp [four_len]; omega
  have hn : num4 (four d.length ++ tl ++ more) = d.length := by
    rw [List.append_assoc]
    exact num4_four _ (by omega) _
  have hl : (four d.length ++ tl ++ more).length = d.length + 9 + more.length := by simp [four_len, htll]; omega
  have h8 : (four d.length ++ tl ++ more).drop 8 = tl.drop 4 ++ more := by
    rw [List.append_assoc, List.drop_append, List.drop_of_length_le (by rw [four_len]; omega), four_len, List.nil_append, List.drop_append_of_le_length (by omega)]
  have h4' : (four d.length ++ tl ++ more).drop 4 = tl ++ more := by
    rw [List.append_assoc, List.drop_append, List.drop_of_length_le (by rw [four_len]; omega), four_len]
    simp
  have hin : (tl.drop 4 ++ more).take (d.length + 1) = tl.drop 4 := by
    rw [List.take_append, List.take_of_length_le (by simp [htll])]
    simp [htll]
  unfold one
  rw [hn, h8, h4', hin, if_neg (by omega), if_neg (by omega), if_pos]
  -- the sum does not fit
  by_cases h8i : i < 8
  · -- a byte of the sum
    have e1 : tl = (four (crc (k :: d))).set (i - 4) y ++ (k :: d) := by rw [← htl, List.set_append, if_pos (by rw [four_len]; omega)]
    have e2 : tl.drop 4 = k :: d := by
      rw [e1, List.drop_append, List.drop_of_length_le (by simp [four_len])]
      simp [four_len]
    rw [e2]
    intro he
    have h5 : num4 (four (crc (k :: d)) ++ ((k :: d) ++ more)) = num4 (tl ++ more) := by rw [num4_four _ (crc_lt _)]; exact he
    have h6 := num4_inj _ _ (by simp [four_len]) (by simp [htll]; omega) h5
    have h7 : (four (crc (k :: d))) = (four (crc (k :: d))).set (i - 4) y := by
      rw [e1, List.append_assoc, List.take_left' (four_len _), List.take_left' (by rw [List.length_set, four_len])] at h6
      exact h6
    apply hne
    have h8 : (four (crc (k :: d))).getD (i - 4) 0 = y := by
      rw [h7]
      simp [List.getD_eq_getElem?_getD, four_len, show i - 4 < 4 by omega]
    rw [← h8]
    unfold frameB
    simp only [List.getD_eq_getElem?_getD]
    rw [List.getElem?_append_right (by rw [four_len]; omega), four_len, List.getElem?_append_left (by rw [four_len]; omega)]
  · have e1 : tl = four (crc (k :: d)) ++ (k :: d).set (i - 8) y := by
      rw [← htl, hs _ _ _ (by rw [four_len]; omega), four_len]
      rw [show i - 4 - 4 = i - 8 from by omega]
    have e2 : tl.drop 4 = (k :: d).set (i - 8) y := by
      rw [e1, List.drop_append, List.drop_of_length_le (by simp [four_len])]
      simp [four_len]
    rw [e2, e1, List.append_assoc, num4_four _ (crc_lt _)]
    refine crc_set (k :: d) (i - 8) y (by simp; omega) ?_
    intro he
    apply hne
    rw [← he]
    unfold frameB
    simp only [List.getD_eq_getElem?_getD]
    rw [List.getElem?_append_right (by rw [four_len]; omega), four_len, List.getElem?_append_right (by rw [four_len]; omega), four_len]
    rw [show i - 4 - 4 = i - 8 from by omega, List.getElem?_eq_getElem (by simp; omega)]
    rfl
end Go.Proofs.Ytfbcdlbcdaobcaa
