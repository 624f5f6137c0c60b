/-
  Package wire: lists of servers as bytes, and back; which entries may be.
-/
import Derived.Test.YtoongmoajnedlaaGreatRead
import Derived.Test.YtoongmoajnedlaaGreatWire2
set_option linter.unusedVariables false
set_option linter.unusedSimpArgs false
namespace Go.Proofs.YtoongmoajnedlaaGreat
open Go.RowKit

theorem strB_dec (x y : List UInt8) : ((strB x).toList == (strB y).toList) = decide (x = y) := by
  rw [ByteArray.toList_eq, ByteArray.toList_eq]
  unfold strB
  simp only []
  by_cases h : x = y
  · subst h; simp
  · rw [decide_eq_false h]; simpa using h
theorem equal_any (A B : Option Addr) (x y : List UInt8) (p q c d : Nat) (w : World) (hp : x.length = p) (hq : y.length = q) (hA : Sees w A (u8s x)) (hB : Sees w B (u8s y)) :
    Calls Tryz.prog 164 #[.slice A p c, .slice B q d] w fun e w' => e = .returned (.bool (decide (x = y))) ∧ w = w' := by
  have q1 := run_string_sees (P := Tryz.prog) _ _ _ _ Tryz.underlying29 Tryz.underlying5 Tryz.underlying9 A p c x hp hA
  have q2 := run_string_sees (P := Tryz.prog) _ _ _ _ Tryz.underlying29 Tryz.underlying5 Tryz.underlying9 B q d y hq hB
  clear hA hB
  go_enter Tryz.func164, Tryz.ntmps164
  go_wp2
  go_ret
  exact ⟨by rw [← strB_dec]; rfl, rfl⟩
theorem new_any (A : Option Addr) (bs : List UInt8) (n c : Nat) (w : World) (hn : bs.length = n) (hc : n ≤ c) (hl : n ≤ 140737488355328) (h : Sees w A (u8s bs)) :
    Calls Tryz.prog 145 #[.slice A n c] w fun e w' => ∃ g r, e = .returned (.pointer (some ⟨g, 0, none⟩)) ∧ RdAt g r (some bs) w' ∧ r ≤ g ∧ g < w'.heap.size ∧ w.heap.size ≤ g ∧ Below w.heap.size w w' := by
  have HCL := Lib.hid (clone_u8_at A n c bs w hn hc hl h)
  have HN := Lib.hid hn
  clear h hn
  go_enter Tryz.func145, Tryz.ntmps145
  go_wp2_with (first
    | (go_at_call 108; refine HCL.out.mono ?_; rintro e w1 ⟨A1, c1, rfl, hown, hb⟩; have HOWN := Lib.hid hown; have HB := Lib.hid hb; clear hown hb)
    | fail)
  go_ret
  have hbn := HB.out.alloc HB.out.size (.cells #[.int .i64 0, .slice A1 n c1, .bool true] 240)
  have hsn := ((sees_own' HOWN.out).2.2.2).below ((Below.refl w1.heap.size w1).alloc (Nat.le_refl _) (.cells #[.int .i64 0, .slice A1 n c1, .bool true] 240))
  obtain ⟨r, hr1, hr2, hr3⟩ : ∃ r, (∀ ad, A1 = some ad → 0 < n → ad.block = r) ∧ (0 < n → r < w1.heap.size) ∧ r ≤ w1.heap.size := by
    by_cases h0 : 0 < n
    · obtain ⟨_, g, h, _, hg⟩ := own_pos HOWN.out h0
      subst h
      exact ⟨g, fun a h _ => by cases h; rfl, fun _ => hg, Nat.le_of_lt hg⟩
    · exact ⟨0, fun a _ h => absurd h h0, fun h => absurd h h0, Nat.zero_le _⟩
  refine ⟨w1.heap.size, r, rfl, ⟨0, A1, n, c1, bs, heap_alloc_new _ _, HN.out, (sees_own' HOWN.out).2.1, hl, hsn, hr1, fun h => ?_, .inl ⟨rfl, rfl⟩⟩, hr3, by simp, HB.out.size, hbn⟩
  have := hr2 h
  omega
theorem RdAt.keep {g r : Nat} {s : RS} {W W' : World} (h : RdAt g r s W) (hg : W'.heap[g]? = W.heap[g]?) (hr : r < W.heap.size → W'.heap[r]? = W.heap[r]?) : RdAt g r s W' := by
  obtain ⟨e, R, n, c, bs, h0, h1, h2, h3, h4, h5, h6⟩ := h
  refine ⟨e, R, n, c, bs, hg.trans h0, h1, h2, h3, fun j u hj => ?_, h5, h6⟩
  obtain ⟨ad, e1, hc⟩ := h4 j u hj
  have hn : 0 < n := by have := (List.getElem?_eq_some_iff.1 hj).1; rw [u8s_length] at this; omega
  have hb := h5 ad e1 hn
  have hlt := World.block_lt_of_cell? _ _ hc
  rw [add_blk, hb] at hlt
  refine ⟨ad, e1, ?_⟩
  rw [← hc]
  exact World.cell?_of_block (by rw [add_blk, hb]; exact hr hlt)
/-- Good as far as k. -/
def goodS (l : List Nat) (k : Nat) : Prop := ∀ j, j < k → l.getD j 0 < 16 ∧ (0 < j → l.getD (j - 1) 0 < l.getD j 0)
theorem getD_n {l : List Nat} {k : Nat} (hk : k < l.length) : l.getD k 0 = l[k] := by simp [List.getD_eq_getElem?_getD, hk]
theorem rightS_good {l : List Nat} : rightS l = true ↔ (1 ≤ l.length ∧ l.length ≤ 7) ∧ goodS l l.length := by
  rw [rightS_iff]
  constructor
  · rintro ⟨h1, h2, h3, h4⟩
    refine ⟨⟨h1, h2⟩, fun j hj => ⟨by rw [getD_n hj]; exact h3 _ (List.getElem_mem hj), fun h0 => ?_⟩⟩
    rw [getD_n hj, getD_n (show j - 1 < l.length by omega)]
    exact List.pairwise_iff_getElem.1 h4 (j - 1) j (by omega) hj (by omega)
  · rintro ⟨⟨h1, h2⟩, h3⟩
    refine ⟨h1, h2, fun x hx => ?_, List.pairwise_iff_getElem.2 fun i j hi hj hij => ?_⟩
    · obtain ⟨j, hj, rfl⟩ := List.getElem_of_mem hx
      rw [← getD_n hj]
      exact (h3 j hj).1
    · have key : ∀ d, ∀ i, i + d + 1 < l.length → l.getD i 0 < l.getD (i + d + 1) 0 := by
        intro d
        induction d with
        | zero => intro i hi; exact (h3 (i + 1) (by omega)).2 (by omega)
        | succ d ih =>
          intro i hi
          have h5 := ih i (by omega)
          have h6 := (h3 (i + (d + 1) + 1) hi).2 (by omega)
          have e : i + (d + 1) + 1 - 1 = i + d + 1 := by omega
          rw [e] at h6
          omega
      have := key (j - i - 1) i (by omega)
      rw [show i + (j - i - 1) + 1 = j by omega, getD_n hi, getD_n hj] at this
      exact this
def natv (x : Nat) : Value := .int .i64 (x : Int)
theorem nat_at {w : World} {A : Option Addr} {l : List Nat} (h : Sees w A (l.map natv)) (k : Nat) (hk : k < l.length) : ∃ ad, A = some ad ∧ w.cell? (ad.add k) = some (.int .i64 ((l.getD k 0 : Nat) : Int)) := by
  refine h k _ ?_
  rw [List.getElem?_map, List.getElem?_eq_getElem hk, getD_n hk]
  rfl
theorem encL_take {l : List Nat} {k : Nat} (hk : k < l.length) : encL (l.take (k + 1)) = encL (l.take k) ++ encN (l.getD k 0) := by
  rw [List.take_succ_eq_append_getElem hk, encL_snoc, getD_n hk]
def RetPut (l : List Nat) (w : World) (e : Ending) (w' : World) : Prop := ∃ A1 n1 c1 er, e = .returned (.tuple #[.slice A1 n1 c1, .int .i64 er]) ∧ Below w.heap.size w w' ∧ (rightS l = true → er = 0 ∧ n1 = (encS l).length ∧ Sees w' A1 (u8s (encS l))) ∧ (rightS l = false → er = 1)
set_option maxHeartbeats 2000000 in
theorem putservers_any (A : Option Addr) (l : List Nat) (m c : Nat) (w : World) (hm : l.length = m) (hs : Sees w A (l.map natv)) (hl : ∀ x ∈ l, x < 281474976710656) (hm2 : m ≤ 1099511627776) :
    Calls Tryz.prog 70 #[.slice A m c] w (RetPut l w) := by
  have HM := Lib.hid hm
  have HS := Lib.hid hs
  have HL := Lib.hid hl
  clear hm hs hl
  by_cases g1 : m < 1 ∨ 7 < m
  · have HR : Hid (rightS l = false) := Lib.hid (by
      cases h : rightS l with
      | false => rfl
      | true => have := (rightS_good.1 h).1; rw [HM.out] at this; omega)
    by_cases g2 : m < 1
    · obtain rfl : m = 0 := by omega
      clear g1
      go_enter Tryz.func70, Tryz.ntmps70
      go_wp2_with fail
      go_ret2
      exact ⟨none, 0, 0, 1, rfl, Below.refl _ _, fun h => (by rw [HR.out] at h; cases h), fun _ => rfl⟩
    · have g3 : (7 : Int) < (m : Int) := by omega
      have g4 : ¬ (m : Int) < 1 := by omega
      clear g1
      go_enter Tryz.func70, Tryz.ntmps70
      go_wp2_with fail
      go_ret2
      exact ⟨none, 0, 0, 1, rfl, Below.refl _ _, fun h => (by rw [HR.out] at h; cases h), fun _ => rfl⟩
  · have m1 : 1 ≤ m := by omega
    have m7 : m ≤ 7 := by omega
    have g3 : ¬ (7 : Int) < (m : Int) := by omega
    have g4 : ¬ (m : Int) < 1 := by omega
    clear g1
    have HNM := Lib.hid (number_own m w (by omega))
    have HEN := Lib.hid (encN_len (x := m) (by omega))
    obtain ⟨en, hen⟩ : ∃ en, encN m = en := ⟨_, rfl⟩
    rw [hen] at HNM HEN
    have HEQ := Lib.hid hen
    clear hen
    go_enter Tryz.func70, Tryz.ntmps70
    go_wp2_with (first
      | (go_at_call 136; refine HNM.out.mono ?_; rintro e w1 ⟨A1, c1, rfl, hown1, hb1⟩; have HST : Hid (∃ (k q cp : Nat) (bs : List UInt8) (B : Option Addr) (last : Int), Value.int .i64 0 = .int .i64 (k : Int) ∧ Value.int .i64 (-1) = .int .i64 last ∧ Value.slice A1 en.length c1 = .slice B q cp ∧ k ≤ m ∧ last = (if k = 0 then -1 else ((l.getD (k - 1) 0 : Nat) : Int)) ∧ goodS l k ∧ bs = en ++ encL (l.take k) ∧ bs.length = q ∧ q ≤ 9 + 9 * k ∧ w1.ownsRow w.heap.size 5 1 (.slice B q cp) q (u8s bs) ∧ Below w.heap.size w w1) := Lib.hid ⟨0, en.length, c1, en, A1, -1, rfl, rfl, rfl, Nat.zero_le _, rfl, fun j hj => by omega, by simp [encL], rfl, by have := HEN.out; omega, hown1, hb1⟩; clear hown1 hb1)
      | fail)
    go_loopw [4, 5, 21] (fun s4 s5 s21 wr => ∃ (k q cp : Nat) (bs : List UInt8) (B : Option Addr) (last : Int), s21 = .int .i64 (k : Int) ∧ s5 = .int .i64 last ∧ s4 = .slice B q cp ∧ k ≤ m ∧ last = (if k = 0 then -1 else ((l.getD (k - 1) 0 : Nat) : Int)) ∧ goodS l k ∧ bs = en ++ encL (l.take k) ∧ bs.length = q ∧ q ≤ 9 + 9 * k ∧ wr.ownsRow w.heap.size 5 1 (.slice B q cp) q (u8s bs) ∧ Below w.heap.size w wr) (fun _ _ s21 _ => m - (intOf s21).toNat)
    case atStart => exact HST.out
    case round =>
      obtain ⟨k, q, cp, bs, B, last, rfl, rfl, rfl, hk, hla, hgo, hbs, hbl, hq9, hown, hb⟩ := hrel
      have HLA := Lib.hid hla
      have HGO := Lib.hid hgo
      have HBS := Lib.hid hbs
      have HBL := Lib.hid hbl
      have HOWN := Lib.hid hown
      have HB := Lib.hid hb
      clear HST hla hgo hbs hbl hown hb
      by_cases hlt : k < m
      · have hki : (k : Int) < (m : Int) := by omega
        have hkl : k < l.length := by rw [HM.out]; exact hlt
        obtain ⟨ad, rfl, hc⟩ := nat_at (HS.out.below HB.out) k hkl
        obtain ⟨v, hv⟩ : ∃ v, l.getD k 0 = v := ⟨_, rfl⟩
        rw [hv] at hc
        have hv48 : v < 281474976710656 := by rw [← hv, getD_n hkl]; exact HL.out _ (List.getElem_mem hkl)
        have HV := Lib.hid hv
        have HKL := Lib.hid hkl
        have HBAD : Hid (¬ (v < 16 ∧ last < (v : Int)) → rightS l = false) := Lib.hid (fun h => by
          cases h1 : rightS l with
          | false => rfl
          | true =>
            exfalso
            have h2 := (rightS_good.1 h1).2 k hkl
            rw [hv] at h2
            refine h ⟨h2.1, ?_⟩
            rw [HLA.out]
            split
            · omega
            · have := h2.2 (by omega)
              omega)
        clear hv hkl
        by_cases g5 : (v : Int) ≤ last
        · have HR := Lib.hid (HBAD.out (by omega))
          go_wp2_with fail
          go_ret2
          exact ⟨none, 0, 0, 1, rfl, HB.out, fun h => (by rw [HR.out] at h; cases h), fun _ => rfl⟩
        · by_cases g6 : 16 ≤ v
          · have HR := Lib.hid (HBAD.out (by omega))
            have g6i : (16 : Int) ≤ (v : Int) := by omega
            go_wp2_with fail
            go_ret2
            exact ⟨none, 0, 0, 1, rfl, HB.out, fun h => (by rw [HR.out] at h; cases h), fun _ => rfl⟩
          · have g6i : ¬ (16 : Int) ≤ (v : Int) := by omega
            have HNV := Lib.hid (number_any v wr (by omega))
            have HEV := Lib.hid (encN_len (x := v) (by omega))
            have HGN : Hid (goodS l (k + 1)) := Lib.hid (fun j hj => by
              rcases Nat.lt_or_ge j k with h9 | h9
              · exact HGO.out j h9
              · obtain rfl : j = k := by omega
                rw [HV.out]
                refine ⟨by omega, fun h0 => ?_⟩
                have := HLA.out
                rw [if_neg (by omega)] at this
                omega)
            obtain ⟨ev, hev⟩ : ∃ ev, encN v = ev := ⟨_, rfl⟩
            rw [hev] at HNV HEV
            have HBN : Hid (bs ++ ev = en ++ encL (l.take (k + 1))) := Lib.hid (by rw [encL_take HKL.out, HV.out, hev, HBS.out, List.append_assoc])
            obtain ⟨p, hp⟩ : ∃ p, ev.length = p := ⟨_, rfl⟩
            have HP := Lib.hid hp
            have hp9 : p ≤ 9 := by rw [← hp]; exact HEV.out
            clear hev hp HGO HEV HBAD
            go_wp2_with (first
              | (go_at_call 136; refine HNV.out.mono ?_; rintro e w2 ⟨A2, c2, rfl, hc2, hs2, hb2⟩; rw [HP.out]; have HS2 := Lib.hid hs2; have HB2 := Lib.hid hb2; have HO2 := Lib.hid (own_keep HOWN.out hb2); clear hc2 hs2 hb2)
              | (at_builtin; refine wpList_append_sees rfl (.tmp 33) (.tmp 35) 29 rfl w.heap.size 5 (.int .u8 0) 1 1 Tryz.underlying29 infoU8 rfl (by decide) (.slice B q cp) q (u8s bs) rfl HO2.out A2 p c2 (u8s ev) rfl (by rw [u8s_length, HP.out, Nat.mul_one]) HS2.out (u8s_one _) (by simp only [maxLen]; omega) (by omega) (Nat.le_trans HB.out.size HB2.out.size) ?_; intro A3 c3 w3 hown3 hg3 hat3; have HO3 := Lib.hid hown3; have HB3 := Lib.hid (below_grown_own (below_step HB.out HB.out.size HB2.out) (Nat.le_trans HB.out.size HB2.out.size) HO2.out (Nat.le_refl _) hg3); clear hown3 hg3 hat3)
              | fail)
            go_roundw
            case rel =>
              refine ⟨k + 1, q + p, c3, bs ++ ev, A3, (v : Int), by go_num, rfl, rfl, hlt, ?_, HGN.out, HBN.out, by rw [List.length_append, HBL.out, HP.out], by omega, ?_, HB3.out⟩
              · rw [if_neg (by omega), Nat.add_sub_cancel, HV.out]
              · rw [u8s_append]
                exact HO3.out
            case measure => simp [intOf] <;> omega
      · have hki : ¬ (k : Int) < (m : Int) := by omega
        obtain rfl : k = m := by omega
        have HR : Hid (rightS l = true) := Lib.hid (rightS_good.2 ⟨by rw [HM.out]; omega, by rw [HM.out]; exact HGO.out⟩)
        have HE : Hid (bs = encS l) := Lib.hid (by
          rw [HBS.out]
          unfold encS
          rw [HM.out, HEQ.out, ← HM.out, List.take_length])
        go_wp2_with fail
        go_ret2
        refine ⟨B, q, cp, 0, rfl, HB.out, fun _ => ⟨rfl, ?_, ?_⟩, fun h => (by rw [HR.out] at h; cases h)⟩
        · rw [← HE.out, HBL.out]
        · rw [← HE.out]
          exact (sees_own' HOWN.out).2.2.2
theorem own_out {g base n size : Nat} {e : TypeId} {v : Value} {xs : List Value} {W W' : World} (h : W.ownsRow base e size v n xs) (hO : Outside (· = g) W W') (hg : g < base) : W'.ownsRow base e size v n xs := by
  obtain ⟨h1, h2⟩ := h
  refine ⟨h1, ?_⟩
  rcases h2 with h2 | ⟨g', cap, cur, hv, hg', hh, r⟩
  · exact .inl h2
  · exact .inr ⟨g', cap, cur, hv, hg', (hO.block g' (Array.getElem?_eq_some_iff.1 hh).1 (show ¬ g' = g by omega)).trans hh, r⟩
theorem infoInt : (Tryz.prog.info? 3).map (fun i => (i.zero, i.size, i.bytes)) = some (some (.int .i64 0), 1, 8) := by kernel_rfl
def RetGet (bs : List UInt8) (w : World) (e : Ending) (w' : World) : Prop := ∃ A1 n1 c1 er, e = .returned (.tuple #[.slice A1 n1 c1, .int .i64 er]) ∧ (er == 0) = servB bs ∧ Below w.heap.size w w'
theorem serv_of {bs : List UInt8} {b : Bool} (h : b = true ↔ isServ bs) : b = servB bs := by
  cases hb : servB bs with
  | true => exact h.2 (servB_true.1 hb)
  | false =>
    cases b with
    | false => rfl
    | true => rw [servB_true.2 (h.1 rfl)] at hb; cases hb
set_option maxHeartbeats 4000000 in
theorem getservers_any (A : Option Addr) (bs : List UInt8) (n c : Nat) (w : World) (hn : bs.length = n) (hc : n ≤ c) (hl : n ≤ 140737488355328) (h : Sees w A (u8s bs)) :
    Calls Tryz.prog 125 #[.slice A n c] w (RetGet bs w) := by
  have HNW := Lib.hid (new_any A bs n c w hn hc hl h)
  have HN := Lib.hid hn
  have HS := Lib.hid h
  clear h hn
  obtain ⟨n0, hn0⟩ : ∃ n0, (rdN (some bs)).1 = n0 := ⟨_, rfl⟩
  obtain ⟨s1, hs1⟩ : ∃ s1, (rdN (some bs)).2 = s1 := ⟨_, rfl⟩
  have hn48 : n0 < 281474976710656 := by rw [← hn0]; exact rdN_lt _
  obtain ⟨kk, hkk⟩ : ∃ kk, min n0 7 = kk := ⟨_, rfl⟩
  have hk7 : kk ≤ 7 := by omega
  have HSR : Hid (srvL 7 bs = (rdK kk s1).1) := Lib.hid (by unfold srvL srvN; rw [hn0, hs1, hkk])
  have HN0 := Lib.hid hn0
  have HS1 := Lib.hid hs1
  have HKK := Lib.hid hkk
  clear hn0 hs1 hkk
  go_enter Tryz.func125, Tryz.ntmps125
  go_upto_region 3 with (first
    | (go_at_call 145; refine HNW.out.mono ?_; rintro e w1 ⟨g, r, rfl, hrd, hrg, hgs, hwg, hb1⟩; have HB1 := Lib.hid hb1; have HNU := Lib.hid (number_rd g r _ w1 hrd); have HGS := Lib.hid hgs; have HWG := Lib.hid hwg; have HRG := Lib.hid hrg; clear hrd hrg hgs hwg hb1)
    | fail)
  go_cut [12, 13] from 10 to 13 (fun s12 s13 wc => s12 = .int .i64 (kk : Int) ∧ s13 = .int .i64 0 ∧ RdAt g r s1 wc ∧ Outside (· = g) w1 wc)
  case first =>
    go_wp2_with (first
      | (go_at_call 146; refine HNU.out.mono ?_; rintro e w2 ⟨rfl, hrd2, ho2⟩; rw [HN0.out]; rw [HS1.out] at hrd2; have HRD2 := Lib.hid hrd2; have HO2 := Lib.hid ho2; clear hrd2 ho2)
      | fail)
    all_goals go_meet
    all_goals exact ⟨by have := HKK.out; congr 1; omega, rfl, HRD2.out, HO2.out⟩
  case rest =>
    obtain ⟨rfl, rfl, hrd2, ho2⟩ := hcut
    have HB2 : Hid (Below w.heap.size w wc) := Lib.hid (HB1.out.trans (ho2.below (fun b hb => by have := HWG.out; omega) HB1.out.size))
    have HGC : Hid (g < wc.heap.size) := Lib.hid (Nat.lt_of_lt_of_le HGS.out ho2.size)
    obtain ⟨base, hbase⟩ : ∃ base, wc.heap.size = base := ⟨_, rfl⟩
    have HBS := Lib.hid hbase
    have HST : Hid (∃ (k q cp : Nat) (B : Option Addr) (L : List Nat) (s : RS), Value.int .i64 0 = .int .i64 (k : Int) ∧ Value.slice none 0 0 = .slice B q cp ∧ k ≤ kk ∧ (L, s) = rdK k s1 ∧ L.length = q ∧ q = k ∧ wc.ownsRow base 3 1 (.slice B q cp) q (L.map natv) ∧ RdAt g r s wc ∧ Below w.heap.size w wc ∧ base ≤ wc.heap.size) :=
      Lib.hid ⟨0, 0, 0, none, [], s1, rfl, rfl, Nat.zero_le _, rfl, rfl, rfl, ⟨rfl, .inl ⟨rfl, rfl⟩⟩, hrd2, HB2.out, by omega⟩
    clear hrd2 ho2 hbase
    go_wp2_with fail
    go_loopw [5, 13] (fun s5 s13 wr => ∃ (k q cp : Nat) (B : Option Addr) (L : List Nat) (s : RS), s13 = .int .i64 (k : Int) ∧ s5 = .slice B q cp ∧ k ≤ kk ∧ (L, s) = rdK k s1 ∧ L.length = q ∧ q = k ∧ wr.ownsRow base 3 1 (.slice B q cp) q (L.map natv) ∧ RdAt g r s wr ∧ Below w.heap.size w wr ∧ base ≤ wr.heap.size) (fun _ s13 _ => kk - (intOf s13).toNat)
    case atStart => exact HST.out
    case round =>
      obtain ⟨k, q, cp, B, L, s, rfl, rfl, hk, hls, hlq, rfl, hown, hrd, hb, hbs⟩ := hrel
      have HLS := Lib.hid hls
      have HLQ := Lib.hid hlq
      have HOWN := Lib.hid hown
      have HB := Lib.hid hb
      have HRD := Lib.hid hrd
      have HBW := Lib.hid hbs
      clear HST hls hlq hown hb hrd hbs
      by_cases hlt : q < kk
      · have hki : (q : Int) < (kk : Int) := by omega
        have HNM := Lib.hid (number_rd g r s wr HRD.out)
        obtain ⟨v, hv⟩ : ∃ v, (rdN s).1 = v := ⟨_, rfl⟩
        obtain ⟨s3, hs3⟩ : ∃ s3, (rdN s).2 = s3 := ⟨_, rfl⟩
        have HV := Lib.hid hv
        have HS3 := Lib.hid hs3
        have HNX : Hid ((L ++ [v], s3) = rdK (q + 1) s1) := Lib.hid (by simp only [rdK]; rw [← HLS.out, hv, hs3])
        clear hv hs3
        go_wp2_with (first
          | (go_at_call 146; refine HNM.out.mono ?_; rintro e w3 ⟨rfl, hrd3, ho3⟩; rw [HV.out]; rw [HS3.out] at hrd3; have HRD3 := Lib.hid hrd3; have HO3 := Lib.hid ho3; have HW3 := Lib.hid (own_out HOWN.out ho3 (by have := HGC.out; have := HBS.out; omega)); clear hrd3 ho3)
          | (at_builtin; refine wpList_append_sees rfl (.tmp 15) (.tmp 18) 23 rfl base 3 (.int .i64 0) 1 8 Tryz.underlying23 infoInt rfl (by decide) (.slice B q cp) q (L.map natv) rfl (own_alloc' HW3.out _) (some ⟨w3.heap.size, 0, none⟩) 1 1 [.int .i64 (v : Int)] rfl rfl (sees_new w3 #[.int .i64 (v : Int)] 3) (by simp [Value.oneCell']) (by simp only [maxLen]; omega) (by omega) (by have := HO3.out.size; have := HBW.out; simp; omega) ?_; intro A4 c4 w4 hown4 hg4 hat4; have hal : Below w3.heap.size w3 (w3.alloc (.cells #[.int .i64 (v : Int)] 3)) := (Below.refl _ _).alloc (Nat.le_refl _) _; have hbb : Below base w3 w4 := below_grown_own ((Below.refl base w3).alloc (Nat.le_trans HBW.out HO3.out.size) (.cells #[.int .i64 (v : Int)] 3)) (by have := HO3.out.size; have := HBW.out; simp; omega) (own_alloc' HW3.out _) (Nat.le_refl _) hg4; have HOW4 := Lib.hid hown4; have HBB := Lib.hid hbb; clear hown4 hg4 hat4 hal hbb)
          | fail)
        go_roundw
        case rel =>
          have hgb : g < base := by have := HGC.out; have := HBS.out; omega
          have hbw := HB2.out.size
          have hb3 : Below w.heap.size w w3 := HB.out.trans (HO3.out.below (fun b hb => by have := HWG.out; omega) HB.out.size)
          refine ⟨q + 1, q + 1, c4, A4, L ++ [v], s3, by go_num, rfl, hlt, HNX.out, by rw [List.length_append, HLQ.out]; rfl, rfl, ?_, ?_, hb3.trans (HBB.out.mono (by have := HBS.out; omega)), Nat.le_trans (Nat.le_trans HBW.out HO3.out.size) HBB.out.size⟩
          · rw [List.map_append]
            exact HOW4.out
          · exact HRD3.out.keep (HBB.out.block g hgb) (fun _ => HBB.out.block r (by have := HRG.out; omega))
        case measure => simp [intOf] <;> omega
      · have hki : ¬ (q : Int) < (kk : Int) := by omega
        obtain rfl : q = kk := by omega
        have HL : Hid (L = srvL 7 bs) := Lib.hid (by rw [HSR.out, ← HLS.out])
        have hsee := (sees_own' HOWN.out).2.2.2
        have hlt48 : ∀ x ∈ L, x < 281474976710656 := by rw [HL.out]; exact rdK_lt _ _
        have HPS := Lib.hid (putservers_any B L q cp wr HLQ.out hsee hlt48 (by omega))
        clear hsee hlt48
        go_upto_region 8 with (first
          | (go_at_call 70; refine HPS.out.mono ?_; rintro e w5 ⟨A5, n5, c5, er, rfl, hb5, h5t, h5f⟩; have HB5 := Lib.hid hb5; have H5T := Lib.hid h5t; have H5F := Lib.hid h5f; clear hb5 h5t h5f)
          | fail)
        have HBF : Hid (Below w.heap.size w w5) := Lib.hid (below_step HB.out HB.out.size HB5.out)
        obtain ⟨rs, hrs⟩ : ∃ rs, rightS L = rs := ⟨_, rfl⟩
        cases rs with
        | false =>
          obtain rfl := H5F.out hrs
          have HSV : Hid (((21 : Int) == 0) = servB bs) := Lib.hid (serv_of ⟨fun h => (by cases h), fun h => by
            have := ((serv_prog bs).2 h).1
            rw [← HL.out, hrs] at this
            cases this⟩)
          clear H5T H5F hrs
          go_wp2_with fail
          go_ret2
          exact ⟨none, 0, 0, 21, rfl, HSV.out, HBF.out⟩
        | true =>
          obtain ⟨rfl, hn5, hs5⟩ := H5T.out hrs
          have HEQ := Lib.hid (equal_any A5 A (encS L) bs n5 n c5 c w5 hn5.symm HN.out hs5 (HS.out.below HBF.out))
          obtain ⟨be, hbe⟩ : ∃ be, decide (encS L = bs) = be := ⟨_, rfl⟩
          rw [hbe] at HEQ
          have HSV : Hid (be = servB bs) := Lib.hid (serv_of (by
            rw [← hbe, decide_eq_true_eq, ← serv_prog bs, ← HL.out, hrs]
            simp))
          clear H5T H5F hrs hn5 hs5 hbe
          cases be with
          | true =>
            go_wp2_with (first
              | (go_at_call 164; refine HEQ.out.mono ?_; rintro e w6 ⟨rfl, rfl⟩)
              | fail)
            go_ret2
            exact ⟨B, q, cp, 0, rfl, HSV.out, HBF.out⟩
          | false =>
            go_wp2_with (first
              | (go_at_call 164; refine HEQ.out.mono ?_; rintro e w6 ⟨rfl, rfl⟩)
              | fail)
            go_ret2
            exact ⟨none, 0, 0, 21, rfl, HSV.out, HBF.out⟩
end Go.Proofs.YtoongmoajnedlaaGreat
