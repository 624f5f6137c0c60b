/-
  slices' stable sort at numbers: symMerge where one side is a single number.
-/
import Derived.Test.YtbnbeailbhnbdaaSrt3
import Derived.Laws.BitsAllLaws
set_option linter.unusedVariables false
set_option linter.unusedSimpArgs false
namespace Go.Proofs.Ytbnbeailbhnbdaa
open Go.RowKit

/-- What is known where two rows in order stand side by side. -/
structure TwoAt (g : Nat) (N : Int) (lt : Int → Int → Bool) (a m b len : Nat) (P L R S : List Int) (w : World) : Prop where
  arr : ArrAt g (P ++ (L ++ (R ++ S))) w
  hP : P.length = a
  hL : a + L.length = m
  hR : m + R.length = b
  L0 : 0 < L.length
  R0 : 0 < R.length
  sL : Srt lt L
  sR : Srt lt R
  LR : ∀ x ∈ L, ∀ y ∈ R, x < y
  lo : ∀ x ∈ L, 0 ≤ x
  hi : ∀ y ∈ R, y < N
  hlen : (P ++ (L ++ (R ++ S))).length = len
  small : len ≤ 140737488355328
section
variable {G : World → Prop} {g : Nat} {N : Int} {p1 p2 : Nat} {lt : Int → Int → Bool} {a m b len : Nat} {P L R S : List Int} {w : World}
theorem TwoAt.ble (h : TwoAt g N lt a m b len P L R S w) : b ≤ len := by
  have h1 := h.hlen
  have h2 := h.hP
  have h3 := h.hL
  have h4 := h.hR
  rw [← h1]
  simp only [List.length_append]
  omega
theorem TwoAt.getL (h : TwoAt g N lt a m b len P L R S w) {i : Nat} (h1 : a ≤ i) (h2 : i < m) {W : World} (hW : ArrAt g (P ++ (L ++ (R ++ S))) W) : W.cell? ⟨g, i, none⟩ = some (.int .i64 (L.getD (i - a) 0)) := by
  have h3 := h.hP
  have h4 := h.hL
  rw [hW.cell (by rw [h.hlen]; have := h.ble; have := h.hR; omega)]
  rw [show i = a + (i - a) by omega, getD_pre _ h3, getD_fst _ (by omega), show a + (i - a) - a = i - a by omega]
theorem TwoAt.getR (h : TwoAt g N lt a m b len P L R S w) {i : Nat} (h1 : m ≤ i) (h2 : i < b) {W : World} (hW : ArrAt g (P ++ (L ++ (R ++ S))) W) : W.cell? ⟨g, i, none⟩ = some (.int .i64 (R.getD (i - m) 0)) := by
  have h3 := h.hP
  have h4 := h.hL
  have h5 := h.hR
  rw [hW.cell (by rw [h.hlen]; have := h.ble; omega)]
  rw [← List.append_assoc P L]
  rw [show i = m + (i - m) by omega, getD_pre (P := P ++ L) _ (by rw [List.length_append]; omega), getD_fst _ (by omega), show m + (i - m) - m = i - m by omega]
end
theorem mem_getD {l : List Int} {k : Nat} (hk : k < l.length) : l.getD k 0 ∈ l := by
  rw [getD_of hk]
  exact List.getElem_mem hk
def SymIn (g m b : Nat) (lt : Int → Int → Bool) (R ds : List Int) (x : Int) (w : World) (s10 s11 : Value) (wr : World) : Prop :=
  ∃ i j : Nat, s10 = .int .i64 (i : Int) ∧ s11 = .int .i64 (j : Int) ∧ m ≤ i ∧ i ≤ j ∧ j ≤ b ∧ (i = m ∨ lt (R.getD (i - m - 1) 0) x = true) ∧ (j = b ∨ lt (R.getD (j - m) 0) x = false) ∧ ArrAt g ds wr ∧ Outside (· = g) w wr
def SymSwap (g a q : Nat) (P R S : List Int) (x : Int) (w : World) (s13 : Value) (wr : World) : Prop :=
  ∃ t k : Nat, s13 = .int .i64 (k : Int) ∧ a + t = k ∧ t ≤ q ∧ ArrAt g (P ++ (R.take t ++ x :: (R.drop t ++ S))) wr ∧ Outside (· = g) w wr
theorem symL_step (P R S : List Int) (x : Int) {t : Nat} (ht : t < R.length) : swapL (P ++ (R.take t ++ x :: (R.drop t ++ S))) (P.length + t) (P.length + t + 1) = P ++ (R.take (t + 1) ++ x :: (R.drop (t + 1) ++ S)) := by
  have h1 : R.drop t = R[t] :: R.drop (t + 1) := by rw [List.getElem_cons_drop]
  have h2 : R.take (t + 1) = R.take t ++ [R[t]] := by rw [List.take_succ_eq_append_getElem (by omega)]
  have := swap_next (P ++ R.take t) (R.drop (t + 1) ++ S) x R[t]
  rw [List.length_append, List.length_take, Nat.min_eq_left (by omega)] at this
  rw [h1, h2]
  simp only [List.append_assoc, List.cons_append, List.nil_append] at this ⊢
  exact this
theorem symL_at (P R S : List Int) (x : Int) {t : Nat} (ht : t < R.length) : (P ++ (R.take t ++ x :: (R.drop t ++ S))).getD (P.length + t) 0 = x ∧ (P ++ (R.take t ++ x :: (R.drop t ++ S))).getD (P.length + t + 1) 0 = R.getD t 0 := by
  have hl : (R.take t).length = t := by rw [List.length_take]; omega
  have h1 : R.drop t = R[t] :: R.drop (t + 1) := by rw [List.getElem_cons_drop]
  constructor
  · rw [getD_pre _ rfl]
    have := getD_mid (R.take t) (R.drop t ++ S) x
    rwa [hl] at this
  · rw [Nat.add_assoc, getD_pre _ rfl, getD_of ht]
    have := getD_mid (R.take t ++ [x]) (R.drop (t + 1) ++ S) R[t]
    rw [List.length_append, hl, List.append_assoc] at this
    rw [h1]
    exact this
theorem symL_end {lt : Int → Int → Bool} (ho : LO lt) {R : List Int} {x : Int} (hR : Srt lt R) (hx : ∀ y ∈ R, x < y) {q : Nat} (hq : q ≤ R.length) (h1 : q = 0 ∨ lt (R.getD (q - 1) 0) x = true) (h2 : q = R.length ∨ lt (R.getD q 0) x = false) : Srt lt (R.take q ++ x :: R.drop q) ∧ (R.take q ++ x :: R.drop q).Perm ([x] ++ R) := by
  refine ⟨ins_srt ho (by rw [List.take_append_drop]; exact hR) ?_ ?_, ?_⟩
  · intro z hz
    refine cross ho (A := [x]) (B := R) (List.pairwise_singleton _ _) hR (i := 1) (j := q) (Nat.le_refl _) ?_ x (by simp) z hz
    rcases h2 with h2 | h2
    · exact .inr (.inl h2)
    · rcases Nat.lt_or_ge q R.length with hl | hl
      · refine .inr (.inr (ho.of_not ?_ h2))
        have h3 := hx _ (mem_getD hl)
        show R.getD q 0 ≠ x
        omega
      · exact .inr (.inl (by omega))
  · intro z hz
    refine cross ho (A := R) (B := [x]) hR (List.pairwise_singleton _ _) (i := q) (j := 0) hq ?_ z hz x (by simp)
    rcases h1 with h1 | h1
    · exact .inl h1
    · exact .inr (.inr h1)
  · refine List.perm_middle.trans ?_
    rw [List.take_append_drop]
    rfl
set_option maxRecDepth 16384 in
set_option maxHeartbeats 4000000 in
theorem sym_left {G : World → Prop} {g : Nat} {N : Int} {p1 p2 : Nat} {lt : Int → Int → Bool} (hC : CmpOK G g N p1 p2 lt) (ho : LO lt) (a m b len : Nat) (P R S : List Int) (x : Int) (w : World) (hG : G w) (h : TwoAt g N lt a m b len P [x] R S w) :
    Calls Try.prog 59 #[.slice (some ⟨g, 0, none⟩) len len, .int .i64 (a : Int), .int .i64 (m : Int), .int .i64 (b : Int), cmpV p1 p2] w (RetPerm g lt P ([x] ++ R) S w) := by
  have hbl := h.ble
  have hsm := h.small
  have hma : a + 1 = m := h.hL
  have hmb : m ≤ b := by have := h.hR; omega
  have hxr := h.LR x (by simp)
  have hx0 := h.lo x (by simp)
  have HXR := Lib.hid hxr
  have HT := Lib.hid h
  have HG := Lib.hid hG
  have HC := Lib.hid hC
  have e0 : (m : Int) - (a : Int) = 1 := by omega
  have HMA := Lib.hid hma
  have hma2 : a < m := by omega
  clear h hG hC hxr hma
  unfold cmpV
  go_enter Try.func59, Try.ntmps59
  go_wp2_with fail
  go_loopw [10, 11] (fun s10 s11 wr => SymIn g m b lt R (P ++ ([x] ++ (R ++ S))) x w s10 s11 wr) (fun s10 s11 _ => (intOf s11).toNat - (intOf s10).toNat)
  case atStart => exact ⟨m, b, rfl, rfl, Nat.le_refl _, hmb, Nat.le_refl _, .inl rfl, .inl rfl, HT.out.arr, Outside.refl _ _⟩
  case round =>
    obtain ⟨i, j, rfl, rfl, hmi, hij, hjb, hI, hJ, harr, hout⟩ := hrel
    have HI := Lib.hid hI
    have HJ := Lib.hid hJ
    have HA := Lib.hid harr
    have HO := Lib.hid hout
    clear hI hJ
    by_cases hlt : i < j
    · have hlti : (i : Int) < (j : Int) := by omega
      obtain ⟨h, hh⟩ : ∃ h, (i + j) / 2 = h := ⟨_, rfl⟩
      have eh : ((i : Int) + (j : Int)) / 2 = (h : Int) := by omega
      have hhi : i ≤ h := by omega
      have hhj : h < j := by omega
      have hhl : (h : Int) < (len : Int) := by omega
      have hal : (a : Int) < (len : Int) := by omega
      have ha0 : (0 : Int) ≤ (a : Int) := by omega
      have hh0 : (0 : Int) ≤ (h : Int) := by omega
      obtain ⟨y, hy⟩ : ∃ y, R.getD (h - m) 0 = y := ⟨_, rfl⟩
      have hym : y ∈ R := by rw [← hy]; exact mem_getD (by have := HT.out.hR; omega)
      have d1 : wr.drew.cell? ⟨g, h, none⟩ = some (.int .i64 y) := by
        rw [← hy]
        exact HT.out.getR (by omega) (by omega) harr
      have d2 : wr.drew.cell? ⟨g, a, none⟩ = some (.int .i64 x) := by
        have := HT.out.getL (i := a) (by omega) (by omega) harr
        simpa using this
      have HGR : Hid (G wr.drew) := Lib.hid (HC.out.keep _ _ HG.out hout.drew)
      have hyx := HXR.out y hym
      have hyN := HT.out.hi y hym
      obtain ⟨lb, hlb⟩ : ∃ lb, lt y x = lb := ⟨_, rfl⟩
      have HLB := Lib.hid hlb
      have HY := Lib.hid hy
      clear harr hout hlb hh hy hym
      go_wp2_with fail
      go_region_held3 (fun W' => W'.cell? ⟨g, h, none⟩ = some (.int .i64 y) ∧ W'.cell? ⟨g, a, none⟩ = some (.int .i64 x))
        (first
          | exact ⟨d1, d2⟩
          | exact ⟨k1, k2⟩
          | fail)
        (first
          | (go_simp; go_at_call 53; refine (HC.out.call wr.drew y x HGR.out hx0 hyx hyN).mono ?_; rintro e w5 ⟨r, rfl, hr5, hb5⟩; rw [HLB.out] at hr5; have k1 := (hb5.cell (p := ⟨g, h, none⟩) (World.block_lt_of_cell? _ _ d1)).trans d1; have k2 := (hb5.cell (p := ⟨g, a, none⟩) (World.block_lt_of_cell? _ _ d2)).trans d2; have HB5 := Lib.hid hb5; clear hb5)
          | fail)
      have HA5 : Hid (ArrAt g (P ++ ([x] ++ (R ++ S))) w5) := Lib.hid (HA.out.drew.below HB5.out)
      have HO5 : Hid (Outside (· = g) w w5) := Lib.hid (HO.out.drew.trans (Outside.of_below HB5.out) (fun b _ hb => hb))
      cases lb with
      | true =>
        clear d1 d2
        go_wp2_with fail
        go_roundw
        case rel =>
          refine ⟨h + 1, j, by go_num, rfl, by omega, by omega, hjb, .inr ?_, HJ.out, HA5.out, HO5.out⟩
          rw [show h + 1 - m - 1 = h - m by omega, HY.out]
          exact HLB.out
        case measure => simp [intOf]; omega
      | false =>
        clear d1 d2
        go_wp2_with fail
        go_roundw
        case rel =>
          refine ⟨i, h, rfl, rfl, hmi, hhi, by omega, HI.out, .inr ?_, HA5.out, HO5.out⟩
          rw [HY.out]
          exact HLB.out
        case measure => simp [intOf]; omega
    · obtain rfl : i = j := by omega
      have hlti : ¬ (i : Int) < (i : Int) := by omega
      obtain ⟨q, hq⟩ : ∃ q, i = m + q := ⟨i - m, by omega⟩
      have hqR : q ≤ R.length := by have := HT.out.hR; omega
      have HST : Hid (SymSwap g a q P R S x w (.int .i64 (a : Int)) wr) := Lib.hid ⟨0, a, rfl, rfl, Nat.zero_le _, by simpa using harr, hout⟩
      have HEND := Lib.hid (symL_end ho HT.out.sR HXR.out hqR (by
        rcases HI.out with h1 | h1
        · exact .inl (by omega)
        · exact .inr (by rwa [show i - m - 1 = q - 1 by omega] at h1)) (by
        rcases HJ.out with h1 | h1
        · exact .inl (by have := HT.out.hR; omega)
        · exact .inr (by rwa [show i - m = q by omega] at h1)))
      have ei : IntKind.i64.wrap ((i : Int) - 1) = (i : Int) - 1 := IntWalk.i64_in _ (by omega)
      clear harr hout HA HO
      go_wp2_with fail
      obtain ⟨wo, hwo⟩ : ∃ wo : World, wo = wr := ⟨_, rfl⟩
      rw [← hwo] at HST ⊢
      clear hwo
      go_loopw [13] (fun s13 wr => SymSwap g a q P R S x w s13 wr) (fun s13 _ => i - (intOf s13).toNat)
      case atStart => exact HST.out
      case round =>
        obtain ⟨t, k, rfl, hk, htq, harr, hout⟩ := hrel
        have HO := Lib.hid hout
        have HK := Lib.hid hk
        by_cases hkq : t < q
        · have hki : (k : Int) < (i : Int) - 1 := by omega
          have HSW := Lib.hid (symL_step P R S x (t := t) (by omega))
          have hat := symL_at P R S x (t := t) (by omega)
          rw [HT.out.hP, hk] at HSW hat
          have hlen : (P ++ (R.take t ++ x :: (R.drop t ++ S))).length = len := by
            rw [← HT.out.hlen]
            simp only [List.length_append, List.length_cons, List.length_take, List.length_drop, List.length_nil]
            omega
          obtain ⟨y, hy⟩ : ∃ y, R.getD t 0 = y := ⟨_, rfl⟩
          rw [hy] at hat
          obtain ⟨ds, hds⟩ : ∃ ds, P ++ (R.take t ++ x :: (R.drop t ++ S)) = ds := ⟨_, rfl⟩
          rw [hds] at harr hlen HSW hat
          have HA := Lib.hid harr
          have hca := harr.cell (i := k) (by omega)
          have hcb := harr.cell (i := k + 1) (by omega)
          have hfa := harr.frozen k
          have hfb := harr.frozen (k + 1)
          rw [hat.1] at hca
          rw [hat.2] at hcb
          have HAT := Lib.hid hat
          have ea : IntKind.i64.wrap ((k : Int) + 1) = (k : Int) + 1 := IntWalk.i64_in _ (by omega)
          have la : (k : Int) < (len : Int) := by omega
          have lb : (k : Int) + 1 < (len : Int) := by omega
          have ga : (0 : Int) ≤ (k : Int) := by omega
          have gb : (0 : Int) ≤ (k : Int) + 1 := by omega
          have tb : ((k : Int) + 1).toNat = k + 1 := by omega
          have hne : (⟨g, k, none⟩ : Addr) ≠ ⟨g, k + 1, none⟩ := by intro e; injection e; omega
          have da : wr.drew.cell? ⟨g, k, none⟩ = _ := hca
          have db : wr.drew.cell? ⟨g, k + 1, none⟩ = _ := hcb
          have fa : wr.drew.frozen? ⟨g, k, none⟩ = false := hfa
          have fb : wr.drew.frozen? ⟨g, k + 1, none⟩ = false := hfb
          clear hds harr hy hout hat hk
          go_wp2_with fail
          go_region_law (fail)
          all_goals go_wp2
          all_goals go_roundw
          all_goals first
            | (refine ⟨t + 1, k + 1, by go_num, by have := HK.out; omega, by omega, ?_, out_swap HO.out _ _ _ _⟩
               rw [← HSW.out]
               exact HA.out.drew.swap HAT.out.1 HAT.out.2)
            | (simp [intOf]; omega)
        · have hki : ¬ (k : Int) < (i : Int) - 1 := by omega
          obtain rfl : t = q := by omega
          have HA := Lib.hid harr
          clear harr hout
          go_wp2_with fail
          go_end0
          exact ⟨_, HEND.out.2, HEND.out.1, rfl, by simpa using HA.out, HO.out⟩
end Go.Proofs.Ytbnbeailbhnbdaa
