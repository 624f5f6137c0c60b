/-
  The reference's lists of servers as bytes.
-/
import Derived.Test.YtoongmoajnedlaaGreatRRead
import Derived.Test.YtoongmoajnedlaaGreatServ
set_option linter.unusedVariables false
set_option linter.unusedSimpArgs false
namespace Go.Proofs.YtoongmoajnedlaaGreat
open Go.RowKit

theorem rnew_any (A : Option Addr) (bs : List UInt8) (n c : Nat) (w : World) (hn : bs.length = n) (hc : n ≤ c) (hl : n ≤ 140737488351232) (h : Sees w A (u8s bs)) :
    Calls Tryz.prog 188 #[.slice A n c] w fun e w' => ∃ g r, e = .returned (.pointer (some ⟨g, 0, none⟩)) ∧ RfAt g r (some bs) w' ∧ r ≤ g ∧ g < w'.heap.size ∧ w.heap.size ≤ g ∧ Below w.heap.size w w' := by
  have HN := Lib.hid hn
  have HS := Lib.hid (h.below ((Below.refl w.heap.size w).alloc (Nat.le_refl _) (.cells #[] 5)))
  clear h hn
  go_enter Tryz.func188, Tryz.ntmps188
  go_wp2_with (first
    | (at_builtin; refine wpList_append_sees rfl (.tmp 3) (.tmp 4) 29 rfl w.heap.size 5 (.int .u8 0) 1 1 Tryz.underlying29 infoU8 rfl (by decide) (.slice (some ⟨w.heap.size, 0, none⟩) 0 0) 0 [] rfl (own_lit w 5 [] 0 rfl) A n c (u8s bs) rfl (by rw [u8s_length, HN.out, Nat.mul_one]) HS.out (u8s_one _) (by simp only [maxLen]; omega) (by omega) (by simp) ?_; intro A1 c1 w1 hown hg hat; rw [List.nil_append, Nat.zero_add] at hown; have HOWN := Lib.hid hown; have HB := Lib.hid (below_grown_own ((Below.refl w.heap.size w).alloc (Nat.le_refl _) (.cells #[] 5)) (by simp) (own_lit w 5 [] 0 rfl) (Nat.le_refl _) hg); clear hown hg hat)
    | fail)
  go_ret
  have hbn := HB.out.alloc HB.out.size (.cells #[.slice A1 n c1, .int .i64 0, .int .i64 0] 272)
  have hsn := ((sees_own' HOWN.out).2.2.2).below ((Below.refl w1.heap.size w1).alloc (Nat.le_refl _) (.cells #[.slice A1 n c1, .int .i64 0, .int .i64 0] 272))
  obtain ⟨r, hr1, hr2, hr3⟩ : ∃ r, (∀ ad, A1 = some ad → 0 < n → ad.block = r) ∧ (0 < n → r < w1.heap.size) ∧ r ≤ w1.heap.size := by
    by_cases h0 : 0 < n
    · obtain ⟨_, g, h, _, hg⟩ := own_pos HOWN.out h0
      subst h
      exact ⟨g, fun a h _ => by cases h; rfl, fun _ => hg, Nat.le_of_lt hg⟩
    · exact ⟨0, fun a _ h => absurd h h0, fun h => absurd h h0, Nat.zero_le _⟩
  refine ⟨w1.heap.size, r, by simp, ⟨A1, n, c1, 0, 0, bs, by simpa using heap_alloc_new w1 _, HN.out, (sees_own' HOWN.out).2.1, by omega, Nat.zero_le _, by simpa using hsn, hr1, fun h => ?_, .inl ⟨rfl, rfl⟩⟩, hr3, by simp, HB.out.size, by simpa using hbn⟩
  have := hr2 h
  omega
theorem rend_any (g r : Nat) (s : RS) (w : World) (h : RfAt g r s w) : Calls Tryz.prog 190 #[.pointer (some ⟨g, 0, none⟩)] w fun e w' => ∃ er : Int, e = .returned (.int .i64 er) ∧ (er = 0 ↔ s = some []) ∧ ∃ k, w' = w.drewN k := by
  obtain ⟨R, n, c, at_, e, bs, h0, h1, h2, h3, ha, h4, h5, hrg, h6⟩ := h
  obtain ⟨c0, c1, c2, cf⟩ := rf_cells h0
  have HL := Lib.hid (rleft_any g R n c at_ w c0 c1 h3 ha)
  clear h0 h4 cf
  rcases h6 with ⟨rfl, rfl⟩ | ⟨he, rfl⟩
  · rcases Nat.eq_or_lt_of_le ha with rfl | hlt
    · have e9 : (at_ : Int) - (at_ : Int) = 0 := by omega
      rw [e9] at HL
      have HD : Hid (bs.drop at_ = []) := Lib.hid (List.drop_of_length_le (by omega))
      go_enter Tryz.func190, Tryz.ntmps190
      go_wp2_with (first
        | (go_at_call 204; refine HL.out.mono ?_; rintro e1 w1 ⟨rfl, k1, rfl⟩)
        | fail)
      go_ret
      exact ⟨0, rfl, by rw [HD.out]; simp, _, rfl⟩
    · obtain ⟨lf, hlf⟩ : ∃ lf : Int, (n : Int) - (at_ : Int) = lf := ⟨_, rfl⟩
      rw [hlf] at HL
      have hp : 0 < lf := by omega
      have HD : Hid (bs.drop at_ ≠ []) := Lib.hid (by
        intro h9
        have := congrArg List.length h9
        rw [List.length_drop, h1] at this
        simp at this
        omega)
      clear hlf
      go_enter Tryz.func190, Tryz.ntmps190
      go_wp2_with (first
        | (go_at_call 204; refine HL.out.mono ?_; rintro e1 w1 ⟨rfl, k1, rfl⟩)
        | fail)
      go_ret
      exact ⟨21, rfl, by have := HD.out; simp [this], _, rfl⟩
  · have he' : (e == 0) = false := by simpa using he
    go_enter Tryz.func190, Tryz.ntmps190
    go_wp2_with fail
    go_ret
    exact ⟨e, rfl, by simp [he], 0, rfl⟩
theorem rights_no {l : List Nat} {k : Nat} (hk : k < l.length) (h : ¬ (l.getD k 0 < 16 ∧ (0 < k → l.getD (k - 1) 0 < l.getD k 0))) : rightS l = false := by
  cases hr : rightS l with
  | false => rfl
  | true => exact absurd ((rightS_good.1 hr).2 k hk) h
theorem rights_end {l : List Nat} (h : goodS l l.length) : rightS l = (decide (1 ≤ l.length) && decide (l.length ≤ 7)) := by
  cases hr : rightS l with
  | true =>
    have := (rightS_good.1 hr).1
    rw [decide_eq_true this.1, decide_eq_true this.2]
    rfl
  | false =>
    by_cases h1 : 1 ≤ l.length ∧ l.length ≤ 7
    · rw [rightS_good.2 ⟨h1, h⟩] at hr
      cases hr
    · by_cases h2 : 1 ≤ l.length
      · rw [decide_eq_true h2, decide_eq_false (fun h3 => h1 ⟨h2, h3⟩)]
        rfl
      · rw [decide_eq_false h2]
        rfl
def RetDrew (v : Value) (w : World) (e : Ending) (w' : World) : Prop := e = .returned v ∧ ∃ k, w' = w.drewN k
set_option maxHeartbeats 2000000 in
theorem rrights_any (A : Option Addr) (l : List Nat) (m c : Nat) (w : World) (hm : l.length = m) (hl : m ≤ 1099511627776) (h : Sees w A (l.map natv)) :
    Calls Tryz.prog 191 #[.slice A m c] w (RetDrew (.bool (rightS l)) w) := by
  have H := Lib.hid h
  have HM := Lib.hid hm
  clear h hm
  go_enter Tryz.func191, Tryz.ntmps191
  go_wp2
  go_loopw [3] (fun s3 wr => ∃ k : Nat, s3 = .int .i64 (k : Int) ∧ k ≤ m ∧ goodS l k ∧ ∃ n, wr = w.drewN n) (fun s3 _ => m - (intOf s3).toNat)
  case atStart => exact ⟨0, rfl, Nat.zero_le _, fun i hi => by omega, 0, rfl⟩
  case round =>
    obtain ⟨k, rfl, hk, hok, hwr⟩ := hrel
    have HOK := Lib.hid hok
    have HSR : Hid (Sees wr A (l.map natv)) := Lib.hid (by obtain ⟨n, rfl⟩ := hwr; exact H.out.drewN n)
    have HWR := Lib.hid hwr
    clear hok hwr
    by_cases hlt : k < m
    · obtain ⟨ad, rfl, hc0⟩ := nat_at HSR.out k (by rw [HM.out]; exact hlt)
      have hki : (k : Int) < (m : Int) := by omega
      have hk0 : (0 : Int) ≤ (k : Int) := by omega
      obtain ⟨x, hx⟩ : ∃ x, l.getD k 0 = x := ⟨_, rfl⟩
      rw [hx] at hc0
      have HX := Lib.hid hx
      clear hx
      have d0 : decide ((x : Int) < 0) = false := decide_eq_false (by omega)
      by_cases h16 : 16 ≤ x
      · have HB : Hid (rightS l = false) := Lib.hid (rights_no (k := k) (by rw [HM.out]; exact hlt) (fun h => by rw [HX.out] at h; omega))
        have h16i : (16 : Int) ≤ (x : Int) := by omega
        go_wp2
        go_quiet (fail)
        go_wp2
        go_ret
        exact ⟨by rw [HB.out]; rfl, drew_of HWR.out _⟩
      have d16 : decide ((16 : Int) ≤ (x : Int)) = false := decide_eq_false (by omega)
      by_cases hkz : k = 0
      · subst hkz
        have hc00 : wr.cell? ad = some (.int .i64 (x : Int)) := hc0
        have HB : Hid (goodS l 1) := Lib.hid (fun j hj => by
          obtain rfl : j = 0 := by omega
          exact ⟨by rw [HX.out]; omega, fun h => by omega⟩)
        go_wp2
        go_quiet (fail)
        go_wp2
        go_roundw
        case rel => exact ⟨1, by rfl, by omega, HB.out, drew_of HWR.out _⟩
        case measure => simp [intOf] <;> omega
      obtain ⟨j, hjk⟩ : ∃ j, k = j + 1 := ⟨k - 1, by omega⟩
      have HJK := Lib.hid hjk
      have hjlt : j < m := by omega
      obtain ⟨_, e, hc1⟩ := nat_at HSR.out j (by rw [HM.out]; exact hjlt)
      cases e
      have hj0 : (0 : Int) ≤ (j : Int) := by omega
      have hj1 : (j : Int) < (m : Int) := by omega
      have hj2 : IntKind.i64.wrap ((k : Int) - 1) = (j : Int) := by rw [IntWalk.i64_in _ (by omega)]; omega
      have hj4 : (0 : Int) < (k : Int) := by omega
      have hj5 : 0 < k := by omega
      have hj3 : decide (0 < k) = true := by simpa using hj5
      have hkj : k - 1 = j := by omega
      have HKJ := Lib.hid hkj
      clear hjk hkj
      obtain ⟨y, hy⟩ : ∃ y, l.getD j 0 = y := ⟨_, rfl⟩
      rw [hy] at hc1
      have HY := Lib.hid hy
      clear hy
      by_cases hxy : x ≤ y
      · have HB : Hid (rightS l = false) := Lib.hid (rights_no (k := k) (by rw [HM.out]; exact hlt) (fun h => by have h9 := h.2 hj5; rw [HX.out, HKJ.out, HY.out] at h9; omega))
        have hxyi : (x : Int) ≤ (y : Int) := by omega
        go_wp2
        go_quiet (fail)
        go_wp2
        go_ret
        exact ⟨by rw [HB.out]; rfl, drew_of HWR.out _⟩
      have dxy : decide ((x : Int) ≤ (y : Int)) = false := decide_eq_false (by omega)
      have dxy2 : decide (x ≤ y) = false := decide_eq_false hxy
      have HB : Hid (goodS l (k + 1)) := Lib.hid (fun i hi => by
        rcases Nat.lt_or_ge i k with h9 | h9
        · exact HOK.out i h9
        · obtain rfl : i = k := by omega
          rw [HX.out, HKJ.out, HY.out]
          exact ⟨by omega, fun _ => by omega⟩)
      go_wp2
      go_quiet (fail)
      go_wp2
      go_roundw
      case rel => exact ⟨k + 1, by go_num, hlt, HB.out, drew_of HWR.out _⟩
      case measure => simp [intOf] <;> omega
    · obtain rfl : k = m := by omega
      have HE : Hid (rightS l = (decide (1 ≤ k) && decide (k ≤ 7))) := Lib.hid (by have := rights_end (l := l) (by rw [HM.out]; exact HOK.out); rw [HM.out] at this; exact this)
      have hkk : ¬ (k : Int) < (k : Int) := by omega
      by_cases h1 : 1 ≤ k
      · have h1i : (1 : Int) ≤ (k : Int) := by omega
        by_cases h7 : k ≤ 7
        · have h7i : (k : Int) ≤ 7 := by omega
          have HE2 : Hid (rightS l = true) := Lib.hid (by rw [HE.out, decide_eq_true h1, decide_eq_true h7]; rfl)
          go_wp2
          go_ret
          exact ⟨by rw [HE2.out]; rfl, HWR.out⟩
        · have h7i : ¬ (k : Int) ≤ 7 := by omega
          have HE2 : Hid (rightS l = false) := Lib.hid (by rw [HE.out, decide_eq_false h7, Bool.and_false])
          go_wp2
          go_ret
          exact ⟨by rw [HE2.out]; rfl, HWR.out⟩
      · have h1i : ¬ (1 : Int) ≤ (k : Int) := by omega
        have HE2 : Hid (rightS l = false) := Lib.hid (by rw [HE.out, decide_eq_false h1]; rfl)
        go_wp2
        go_ret
        exact ⟨by rw [HE2.out]; rfl, HWR.out⟩
theorem RfAt.keep {g r : Nat} {s : RS} {W W' : World} (h : RfAt g r s W) (hg : W'.heap[g]? = W.heap[g]?) (hr : r < W.heap.size → W'.heap[r]? = W.heap[r]?) : RfAt g r s W' := by
  obtain ⟨R, n, c, at_, e, bs, h0, h1, h2, h3, ha, h4, h5, h6, h7⟩ := h
  refine ⟨R, n, c, at_, e, bs, hg.trans h0, h1, h2, h3, ha, fun j u hj => ?_, h5, h6, h7⟩
  obtain ⟨ad, e1, hc⟩ := h4 j u hj
  have hn : 0 < n := by have := (List.getElem?_eq_some_iff.1 hj).1; rw [u8s_length] at this; omega
  have hb := h5 ad e1 hn
  have hlt := World.block_lt_of_cell? _ _ hc
  rw [add_blk, hb] at hlt
  refine ⟨ad, e1, ?_⟩
  rw [← hc]
  exact World.cell?_of_block (by rw [add_blk, hb]; exact hr hlt)
set_option maxHeartbeats 4000000 in
theorem rgetservers_any (A : Option Addr) (bs : List UInt8) (n c : Nat) (w : World) (hn : bs.length = n) (hc : n ≤ c) (hl : n ≤ 140737488351232) (h : Sees w A (u8s bs)) :
    Calls Tryz.prog 179 #[.slice A n c] w (RetGet bs w) := by
  have HNW := Lib.hid (rnew_any A bs n c w hn hc hl h)
  clear h hn
  obtain ⟨n0, hn0⟩ : ∃ n0, (rdN (some bs)).1 = n0 := ⟨_, rfl⟩
  obtain ⟨s1, hs1⟩ : ∃ s1, (rdN (some bs)).2 = s1 := ⟨_, rfl⟩
  have hn48 : n0 < 281474976710656 := by rw [← hn0]; exact rdN_lt _
  obtain ⟨kk, hkk⟩ : ∃ kk, min n0 8 = kk := ⟨_, rfl⟩
  have hk8 : kk ≤ 8 := by omega
  have hkn : kk ≤ n0 := by omega
  have HSR : Hid (srvL 8 bs = (rdK kk s1).1 ∧ srvE 8 bs = (rdK kk s1).2 ∧ srvN bs = n0) := Lib.hid (by unfold srvL srvE srvN; rw [hn0, hs1, hkk]; exact ⟨rfl, rfl, rfl⟩)
  have HN0 := Lib.hid hn0
  have HS1 := Lib.hid hs1
  have HKK := Lib.hid hkk
  clear hn0 hs1 hkk
  go_enter Tryz.func179, Tryz.ntmps179
  go_upto_region 3 with (first
    | (go_at_call 188; refine HNW.out.mono ?_; rintro e w1 ⟨g, r, rfl, hrd, hrg, hgs, hwg, hb1⟩; have HB1 := Lib.hid hb1; have HNU := Lib.hid (rnumber_any g r _ w1 hrd); have HGS := Lib.hid hgs; have HWG := Lib.hid hwg; have HRG := Lib.hid hrg; clear hrd hrg hgs hwg hb1)
    | (go_at_call 189; refine HNU.out.mono ?_; rintro e wc ⟨rfl, hrd2, ho2⟩; rw [HN0.out]; rw [HS1.out] at hrd2)
    | fail)
  have HB2 : Hid (Below w.heap.size w wc) := Lib.hid (HB1.out.trans (ho2.below (fun b hb => by have := HWG.out; omega) HB1.out.size))
  have HGC : Hid (g < wc.heap.size) := Lib.hid (Nat.lt_of_lt_of_le HGS.out ho2.size)
  obtain ⟨base, hbase⟩ : ∃ base, wc.heap.size = base := ⟨_, rfl⟩
  have HBS := Lib.hid hbase
  have HST : Hid (∃ (k q cp : Nat) (B : Option Addr) (L : List Nat) (s : RS), Value.int .i64 0 = .int .i64 (k : Int) ∧ Value.slice none 0 0 = .slice B q cp ∧ k ≤ kk ∧ (L, s) = rdK k s1 ∧ L.length = q ∧ q = k ∧ wc.ownsRow base 3 1 (.slice B q cp) q (L.map natv) ∧ RfAt g r s wc ∧ Below w.heap.size w wc ∧ base ≤ wc.heap.size) :=
    Lib.hid ⟨0, 0, 0, none, [], s1, rfl, rfl, Nat.zero_le _, rfl, rfl, rfl, ⟨rfl, .inl ⟨rfl, rfl⟩⟩, hrd2, HB2.out, by omega⟩
  clear hrd2 ho2 hbase
  go_wp2_with fail
  go_loopw [6, 7] (fun s5 s13 wr => ∃ (k q cp : Nat) (B : Option Addr) (L : List Nat) (s : RS), s13 = .int .i64 (k : Int) ∧ s5 = .slice B q cp ∧ k ≤ kk ∧ (L, s) = rdK k s1 ∧ L.length = q ∧ q = k ∧ wr.ownsRow base 3 1 (.slice B q cp) q (L.map natv) ∧ RfAt g r s wr ∧ Below w.heap.size w wr ∧ base ≤ wr.heap.size) (fun _ s13 _ => kk - (intOf s13).toNat)
  case atStart => exact HST.out
  case round =>
    obtain ⟨k, q, cp, B, L, s, rfl, rfl, hk, hls, hlq, rfl, hown, hrd, hb, hbs⟩ := hrel
    have HLS := Lib.hid hls
    have HLQ := Lib.hid hlq
    have HOWN := Lib.hid hown
    have HB := Lib.hid hb
    have HRD := Lib.hid hrd
    have HBW := Lib.hid hbs
    clear HST hls hlq hown hb hrd hbs
    by_cases hlt : q < kk
    · have hki : (q : Int) < (n0 : Int) := by omega
      have hki8 : (q : Int) < 8 := by omega
      have HNM := Lib.hid (rnumber_any g r s wr HRD.out)
      obtain ⟨v, hv⟩ : ∃ v, (rdN s).1 = v := ⟨_, rfl⟩
      obtain ⟨s3, hs3⟩ : ∃ s3, (rdN s).2 = s3 := ⟨_, rfl⟩
      have HV := Lib.hid hv
      have HS3 := Lib.hid hs3
      have HNX : Hid ((L ++ [v], s3) = rdK (q + 1) s1) := Lib.hid (by simp only [rdK]; rw [← HLS.out, hv, hs3])
      clear hv hs3
      go_wp2_with (first
        | (go_at_call 189; refine HNM.out.mono ?_; rintro e w3 ⟨rfl, hrd3, ho3⟩; rw [HV.out]; rw [HS3.out] at hrd3; have HRD3 := Lib.hid hrd3; have HO3 := Lib.hid ho3; have HW3 := Lib.hid (own_out HOWN.out ho3 (by have := HGC.out; have := HBS.out; omega)); clear hrd3 ho3)
        | (at_builtin; refine wpList_append_sees rfl (.tmp 21) (.tmp 24) 23 rfl base 3 (.int .i64 0) 1 8 Tryz.underlying23 infoInt rfl (by decide) (.slice B q cp) q (L.map natv) rfl (own_alloc' HW3.out _) (some ⟨w3.heap.size, 0, none⟩) 1 1 [.int .i64 (v : Int)] rfl rfl (sees_new w3 #[.int .i64 (v : Int)] 3) (by simp [Value.oneCell']) (by simp only [maxLen]; omega) (by omega) (by have := HO3.out.size; have := HBW.out; simp; omega) ?_; intro A4 c4 w4 hown4 hg4 hat4; have hal : Below w3.heap.size w3 (w3.alloc (.cells #[.int .i64 (v : Int)] 3)) := (Below.refl _ _).alloc (Nat.le_refl _) _; have hbb : Below base w3 w4 := below_grown_own ((Below.refl base w3).alloc (Nat.le_trans HBW.out HO3.out.size) (.cells #[.int .i64 (v : Int)] 3)) (by have := HO3.out.size; have := HBW.out; simp; omega) (own_alloc' HW3.out _) (Nat.le_refl _) hg4; have HOW4 := Lib.hid hown4; have HBB := Lib.hid hbb; clear hown4 hg4 hat4 hal hbb)
        | fail)
      go_roundw
      case rel =>
        have hgb : g < base := by have := HGC.out; have := HBS.out; omega
        have hbw := HB2.out.size
        have hb3 : Below w.heap.size w w3 := HB.out.trans (HO3.out.below (fun b hb => by have := HWG.out; omega) HB.out.size)
        refine ⟨q + 1, q + 1, c4, A4, L ++ [v], s3, by go_num, rfl, hlt, HNX.out, by rw [List.length_append, HLQ.out]; rfl, rfl, ?_, ?_, hb3.trans (HBB.out.mono (by have := HBS.out; omega)), Nat.le_trans (Nat.le_trans HBW.out HO3.out.size) HBB.out.size⟩
        · rw [List.map_append]
          exact HOW4.out
        · exact HRD3.out.keep (HBB.out.block g hgb) (fun _ => HBB.out.block r (by have := HRG.out; omega))
      case measure => simp [intOf] <;> omega
    · obtain rfl : q = kk := by omega
      have HL : Hid (L = srvL 8 bs ∧ s = srvE 8 bs) := Lib.hid (by obtain ⟨e1, e2, _⟩ := HSR.out; rw [e1, e2, ← HLS.out]; exact ⟨rfl, rfl⟩)
      have hsee := (sees_own' HOWN.out).2.2.2
      have HEND := Lib.hid (rend_any g r s wr HRD.out)
      have HRS := Lib.hid (fun (j : Nat) => rrights_any B L q cp (wr.drewN j) HLQ.out (by omega) (hsee.drewN j))
      have HSV : Hid (∀ b, (b = true ↔ (s = some [] ∧ n0 = q ∧ rightS L = true)) → b = servB bs) := Lib.hid (fun b hb => serv_of (by
        rw [hb, ← serv_ref bs, ← HL.out.1, ← HL.out.2, HSR.out.2.2, HLQ.out]))
      obtain ⟨rs, hrs⟩ : ∃ rs, rightS L = rs := ⟨_, rfl⟩
      rw [hrs] at HRS HSV
      clear hsee hrs
      have hkki : ¬ (q : Int) < (q : Int) := by omega
      by_cases hA : q = n0
      · have hq0 : ¬ (q : Int) < (n0 : Int) := by omega
        have hq1 : ((n0 : Int) == (q : Int)) = true := by simp; omega
        have HA := Lib.hid hA
        clear hA
        by_cases hs : s = some []
        · cases rs with
          | false =>
            go_wp2_with (first
              | (go_at_call 190; refine HEND.out.mono ?_; rintro e w5 ⟨er, rfl, her, k5, rfl⟩; have her0 : er = 0 := her.2 hs; subst her0; clear her)
              | (go_at_call 191; refine (HRS.out k5).mono ?_; rintro e w6 ⟨rfl, k6, rfl⟩)
              | fail)
            go_ret2
            exact ⟨none, 0, 0, 21, rfl, HSV.out _ ⟨fun h => (by cases h), fun h => absurd h.2.2 (by decide)⟩, by first | exact below_draws HB.out _ | exact below_draws (below_draws HB.out _) _⟩
          | true =>
            go_wp2_with (first
              | (go_at_call 190; refine HEND.out.mono ?_; rintro e w5 ⟨er, rfl, her, k5, rfl⟩; have her0 : er = 0 := her.2 hs; subst her0; clear her)
              | (go_at_call 191; refine (HRS.out k5).mono ?_; rintro e w6 ⟨rfl, k6, rfl⟩)
              | fail)
            go_ret2
            exact ⟨B, q, cp, 0, rfl, HSV.out _ ⟨fun _ => by first | exact ⟨hs, HA.out.symm, rfl⟩ | exact ⟨hs, HA.out.symm, trivial⟩ | simp [hs, HA.out.symm], fun _ => rfl⟩, by first | exact below_draws HB.out _ | exact below_draws (below_draws HB.out _) _⟩
        · skip
          go_wp2_with (first
            | (go_at_call 190; refine HEND.out.mono ?_; rintro e w5 ⟨er, rfl, her, k5, rfl⟩; have her0 : ¬ er = 0 := fun h => hs (her.1 h); clear her)
            | (go_at_call 191; refine (HRS.out k5).mono ?_; rintro e w6 ⟨rfl, k6, rfl⟩)
            | fail)
          go_ret2
          exact ⟨none, 0, 0, 21, rfl, HSV.out _ ⟨fun h => (by cases h), fun h => absurd h.1 hs⟩, by first | exact below_draws HB.out _ | exact below_draws (below_draws HB.out _) _⟩
      · have hq0 : (q : Int) < (n0 : Int) := by omega
        have hq8 : ¬ (q : Int) < 8 := by have := HKK.out; omega
        have hq1 : ((n0 : Int) == (q : Int)) = false := by simp; omega
        by_cases hs : s = some []
        · skip
          go_wp2_with (first
            | (go_at_call 190; refine HEND.out.mono ?_; rintro e w5 ⟨er, rfl, her, k5, rfl⟩; have her0 : er = 0 := her.2 hs; subst her0; clear her)
            | (go_at_call 191; refine (HRS.out k5).mono ?_; rintro e w6 ⟨rfl, k6, rfl⟩)
            | fail)
          go_ret2
          exact ⟨none, 0, 0, 21, rfl, HSV.out _ ⟨fun h => (by cases h), fun h => absurd h.2.1.symm hA⟩, by first | exact below_draws HB.out _ | exact below_draws (below_draws HB.out _) _⟩
        · skip
          go_wp2_with (first
            | (go_at_call 190; refine HEND.out.mono ?_; rintro e w5 ⟨er, rfl, her, k5, rfl⟩; have her0 : ¬ er = 0 := fun h => hs (her.1 h); clear her)
            | (go_at_call 191; refine (HRS.out k5).mono ?_; rintro e w6 ⟨rfl, k6, rfl⟩)
            | fail)
          go_ret2
          exact ⟨none, 0, 0, 21, rfl, HSV.out _ ⟨fun h => (by cases h), fun h => absurd h.1 hs⟩, by first | exact below_draws HB.out _ | exact below_draws (below_draws HB.out _) _⟩
end Go.Proofs.YtoongmoajnedlaaGreat
