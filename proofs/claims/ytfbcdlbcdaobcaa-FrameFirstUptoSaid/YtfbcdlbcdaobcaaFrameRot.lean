/-
  The law FrameRot: the walk.
-/
import Derived.Test.YtfbcdlbcdaobcaaRow
import Derived.Test.YtfbcdlbcdaobcaaFrameScans
set_option linter.unusedVariables false
set_option linter.unusedSimpArgs false
namespace Go.Proofs.Ytfbcdlbcdaobcaa
open Go.RowKit

theorem rot_scan (ys : List (UInt8 × List UInt8)) (hg : ∀ f ∈ ys, f.2.length ≤ 65536) (j r : Nat) (f : UInt8 × List UInt8) (hj : ys[j]? = some f) (hr : r < f.2.length + 5) (y : UInt8) (hne : (enc ys).getD (size (ys.take j) + 4 + r) 0 ≠ y) :
    scan ((enc ys).set (size (ys.take j) + 4 + r) y) = ys.take j := by
  obtain ⟨hjl, hje⟩ := List.getElem?_eq_some_iff.1 hj
  have hsp : ys = ys.take j ++ f :: ys.drop (j + 1) := by
    rw [← hje, List.getElem_cons_drop]
    exact (List.take_append_drop j ys).symm
  have he : enc ys = enc (ys.take j) ++ (frameB f.1 f.2 ++ enc (ys.drop (j + 1))) := by
    conv => lhs; rw [hsp]
    rw [enc_append, enc_cons]
  have hfl := frameB_len f.1 f.2
  rw [he] at hne ⊢
  have hset : (enc (ys.take j) ++ (frameB f.1 f.2 ++ enc (ys.drop (j + 1)))).set (size (ys.take j) + 4 + r) y = enc (ys.take j) ++ ((frameB f.1 f.2).set (4 + r) y ++ enc (ys.drop (j + 1))) := by
    rw [List.set_append, if_neg (by rw [enc_len]; omega), enc_len, List.set_append, if_pos (by omega)]
    rw [show size (ys.take j) + 4 + r - size (ys.take j) = 4 + r from by omega]
  rw [hset, scan_enc _ _ (fun g hg' => hg g (List.mem_of_mem_take hg')), scan_none, List.append_nil]
  refine one_rot f.1 f.2 _ (hg f (List.mem_of_getElem? hj)) (4 + r) y (by omega) (by omega) ?_
  intro h
  apply hne
  rw [← h]
  simp only [List.getD_eq_getElem?_getD]
  rw [List.getElem?_append_right (by rw [enc_len]; omega), enc_len, List.getElem?_append_left (by omega), show size (ys.take j) + 4 + r - size (ys.take j) = 4 + r from by omega]

theorem fk_ku {xs : List (Int × List UInt8)} (h : ∀ f ∈ xs, good f) : (xs.map ku).map fk = xs := by
  rw [List.map_map]
  conv => rhs; rw [← List.map_id xs]
  apply List.map_congr_left
  rintro ⟨k, d⟩ hf
  have h1 := h _ hf
  have h2 : 0 ≤ k := h1.1
  have h3 : k ≤ 255 := h1.2.1
  simp only [Function.comp_apply, ku, fk, id_eq]
  rw [UInt8.toNat_ofNat', Nat.mod_eq_of_lt (by omega)]
  congr 1
  omega
/-- What Scan hands back, where the frames are known. -/
def RetKnown (w : World) (zs : List (UInt8 × List UInt8)) (m F : Nat) (b : Bool) (e : Ending) (w' : World) : Prop :=
  ∃ A c cells, e = .returned (.tuple #[.slice A m c, .int .i64 (F : Int), .bool b]) ∧ m ≤ c ∧ Sees w' A cells ∧ Recs frSeen 2 w' (zs.map fk) cells ∧ Below w.heap.size w w'
theorem scan_known (A : Option Addr) (bs : List UInt8) (n c : Nat) (zs : List (UInt8 × List UInt8)) (m F : Nat) (b : Bool) (hz : scan bs = zs) (hm : zs.length = m) (hF : size zs = F) (hn : bs.length = n) (hb : decide (F = n) = b) (w : World) (hc : n ≤ c) (hcm : c ≤ maxLen) (hl' : n ≤ 1099511627776) (hs : Sees w A (u8s bs)) :
    Calls Try.prog 14 #[.slice A n c] w (RetKnown w zs m F b) := by
  subst hn hz hm hF hb
  refine (scan_any A bs c w hc hcm hl' hs).mono fun e w' ⟨A2, c2, cells, he, ho, hr, hb⟩ => ?_
  exact ⟨A2, c2, cells, he, (sees_own' ho).2.1, (sees_own' ho).2.2.2, frOwn_seen hr (Below.refl _ _), hb⟩
theorem same_at (xs : List (Int × List UInt8)) (n : Nat) (hn : xs.length = n) (A B : Option Addr) (ca cb : Nat) (la lb : List Value) (w : World) (hl : n ≤ 140737488355328) (hA : Sees w A la) (hB : Sees w B lb) (rA : Recs frSeen 2 w xs la) (rB : Recs frSeen 2 w xs lb) :
    Calls Try.prog 16 #[.slice A n ca, .slice B n cb] w (RetQuiet w (.bool true)) := by
  subst hn
  exact same_yes xs A B ca cb la lb w hl hA hB rA rB
theorem frSeen_below {w w' : World} {xs : List (Int × List UInt8)} {cells : List Value} (h : Recs frSeen 2 w xs cells) (hb : Below w.heap.size w w') : Recs frSeen 2 w' xs cells :=
  h.imp fun j x cs _ ⟨A, c, e, hs⟩ => ⟨A, c, e, hs.below hb⟩
def RowBad (w : World) (e : Ending) (w' : World) : Prop := e = .returned (.tuple #[.slice none 0 0, .slice none 0 0, .bool false]) ∧ Below w.heap.size w w'
def RowGood (w : World) (ys : List (UInt8 × List UInt8)) (T m : Nat) (e : Ending) (w' : World) : Prop :=
  ∃ A c B d, e = .returned (.tuple #[.slice A T c, .slice B m d, .bool true]) ∧ w'.ownsRow w.heap.size 5 1 (.slice A T c) T (u8s (enc ys)) ∧ w'.ownsRow w.heap.size 3 1 (.slice B m d) m (ends ys) ∧ Below w.heap.size w w'
theorem row_bad (xs : List (Int × List UInt8)) (A : Option Addr) (c : Nat) (cells : List Value) (w : World) (hl : xs.length ≤ 140737488355328) (hd : ∀ f ∈ xs, f.2.length ≤ 140737488355328) (hA : Sees w A cells) (rA : Recs frSeen 2 w xs cells)
    (hg : ¬ ∀ f ∈ xs.take 50, good f) : Calls Try.prog 17 #[.slice A xs.length c] w (RowBad w) := by
  refine (row_any xs A c cells w hl hd hA rA).mono fun e w' h => ?_
  rcases h with ⟨h1, _, h3⟩ | ⟨_, _, _, _, _, h2, _⟩
  · exact ⟨h1, h3⟩
  · exact absurd h2 hg
theorem row_good (xs : List (Int × List UInt8)) (A : Option Addr) (c : Nat) (cells : List Value) (w : World) (hl : xs.length ≤ 140737488355328) (hd : ∀ f ∈ xs, f.2.length ≤ 140737488355328) (hA : Sees w A cells) (rA : Recs frSeen 2 w xs cells)
    (hg : ∀ f ∈ xs.take 50, good f) (ys : List (UInt8 × List UInt8)) (T m : Nat) (hy : (xs.take 50).map ku = ys) (hT : size ys = T) (hm : ys.length = m) : Calls Try.prog 17 #[.slice A xs.length c] w (RowGood w ys T m) := by
  subst hy hT hm
  refine (row_any xs A c cells w hl hd hA rA).mono fun e w' h => ?_
  rcases h with ⟨_, h2, _⟩ | ⟨A', c', B', d', h1, _, h3, h4, h5⟩
  · exact absurd hg h2
  · exact ⟨A', c', B', d', h1, h3, h4, h5⟩

set_option maxHeartbeats 4000000 in
theorem frameRot_any (xs : List (Int × List UInt8)) (A : Option Addr) (c : Nat) (cells : List Value) (i k : Int) (x : Nat) (w : World) (hc : xs.length ≤ c) (hcm : c ≤ maxLen) (hx : x < 256) (hl : xs.length ≤ 140737488355328) (hd : ∀ f ∈ xs, f.2.length ≤ 140737488355328) (hA : Sees w A cells) (rA : Recs frSeen 2 w xs cells) :
    Calls Try.prog 6 #[.slice A xs.length c, .int .i64 i, .int .i64 k, .int .u8 (x : Int)] w (RetBool w true) := by
  have H := Lib.hid hA
  have R := Lib.hid rA
  have HD := Lib.hid hd
  clear hA rA hd
  by_cases hg : ∀ f ∈ xs.take 50, good f
  case neg =>
    have HG := Lib.hid hg
    clear hg
    go_enter Try.func6, Try.ntmps6
    go_wp2_with (first
      | (go_at_call 17; go_loud (refine (row_bad xs A c cells _ hl HD.out H.out R.out HG.out).mono ?_); rintro e w1 ⟨rfl, hb1⟩)
      | (go_at_call 13; (refine (knows_yes _).mono ?_); rintro e w2 ⟨rfl, hb2⟩)
      | fail)
    go_ret
    exact ⟨rfl, below_step hb1 hb1.size hb2⟩
  obtain ⟨ys, hys⟩ : ∃ ys, (xs.take 50).map ku = ys := ⟨_, rfl⟩
  obtain ⟨T, hT⟩ : ∃ T, size ys = T := ⟨_, rfl⟩
  obtain ⟨m, hm⟩ : ∃ m, ys.length = m := ⟨_, rfl⟩
  have HG := Lib.hid hg
  have HY := Lib.hid hys
  have HTT := Lib.hid hT
  have HM := Lib.hid hm
  have hm50 : m ≤ 50 := by rw [← hm, ← hys, List.length_map, List.length_take]; omega
  have hmx : m ≤ xs.length := by rw [← hm, ← hys, List.length_map, List.length_take]; omega
  have hgy : ∀ f ∈ ys, f.2.length ≤ 65536 := by
    intro f hf
    rw [← hys] at hf
    obtain ⟨f', hf', rfl⟩ := List.mem_map.1 hf
    exact (hg f' hf').2.2
  have hTm : T ≤ 3277250 := by
    have := size_most ys hgy
    rw [hT, hm] at this
    omega
  have HGY := Lib.hid hgy
  clear hg hys hT hm hgy
  by_cases hm0 : m = 0
  · subst hm0
    go_enter Try.func6, Try.ntmps6
    go_wp2_with (first
      | (go_at_call 17; go_loud (refine (row_good xs A c cells _ hl HD.out H.out R.out HG.out ys T 0 HY.out HTT.out HM.out).mono ?_); rintro e w1 ⟨Ab, cb, Be, ce, rfl, hob, hoe, hb1⟩)
      | (go_at_call 13; (refine (knows_yes _).mono ?_); rintro e w2 ⟨rfl, hb2⟩)
      | fail)
    go_ret
    exact ⟨rfl, below_step hb1 hb1.size hb2⟩
  have b1 : ((m : Int) == 0) = false := by simp; omega
  have b2 : (m == 0) = false := by simp; omega
  by_cases hx0 : x = 0
  · subst hx0
    go_enter Try.func6, Try.ntmps6
    go_wp2_with (first
      | (go_at_call 17; go_loud (refine (row_good xs A c cells _ hl HD.out H.out R.out HG.out ys T m HY.out HTT.out HM.out).mono ?_); rintro e w1 ⟨Ab, cb, Be, ce, rfl, hob, hoe, hb1⟩)
      | (go_at_call 13; (refine (knows_yes _).mono ?_); rintro e w2 ⟨rfl, hb2⟩)
      | fail)
    go_ret
    exact ⟨rfl, below_step hb1 hb1.size hb2⟩
  have b3 : ((x : Int) == 0) = false := by simp; omega
  have b4 : (x == 0) = false := by simp; omega
  obtain ⟨j, hj, hje⟩ := mod_place i m (by omega) (by omega)
  obtain ⟨f, hf⟩ : ∃ f, ys[j]? = some f := ⟨ys[j]'(by rw [HM.out]; exact hj), by simp [HM.out, hj]⟩
  have hfl : f.2.length ≤ 65536 := HGY.out f (List.mem_of_getElem? hf)
  obtain ⟨F, hF⟩ : ∃ F, size (ys.take j) = F := ⟨_, rfl⟩
  obtain ⟨E, hE⟩ : ∃ E, size (ys.take (j + 1)) = E := ⟨_, rfl⟩
  have hEF : E = F + (f.2.length + 9) := by
    obtain ⟨h1, h2⟩ := List.getElem?_eq_some_iff.1 hf
    rw [← hE, List.take_succ_eq_append_getElem h1, size_append, hF, h2, size_cons]
    simp [size]
  have hET : E ≤ T := by
    have := congrArg size (List.take_append_drop (j + 1) ys)
    rw [size_append, hE, HTT.out] at this
    omega
  obtain ⟨N, hN⟩ : ∃ N, N = f.2.length + 5 := ⟨_, rfl⟩
  have e1 : (E : Int) - (F : Int) - 4 = (N : Int) := by omega
  obtain ⟨r, hr, hre⟩ := mod_place k N (by omega) (by omega)
  obtain ⟨P, hP⟩ : ∃ P, P = F + 4 + r := ⟨_, rfl⟩
  have e2 : (F : Int) + 4 + (r : Int) = (P : Int) := by omega
  have hPT : P < T := by omega
  have hencl : (enc ys).length = T := by rw [enc_len, HTT.out]
  obtain ⟨bj, hbj⟩ : ∃ bj : UInt8, (enc ys).getD P 0 = bj := ⟨_, rfl⟩
  obtain ⟨y, hy⟩ : ∃ y : UInt8, y = UInt8.ofNat (bj.toNat ^^^ x) := ⟨_, rfl⟩
  have hyn : y.toNat = bj.toNat ^^^ x := by
    have : bj.toNat ^^^ x < 256 := Nat.xor_lt_two_pow (n := 8) bj.toNat_lt (by omega)
    rw [hy]
    simp [Nat.mod_eq_of_lt this, Nat.mod_eq_of_lt hx]
  have hxy : bits .xor .u8 (bj.toNat : Int) (x : Int) = (y.toNat : Int) := by
    rw [hyn]
    exact u8_xor_nat _ _ bj.toNat_lt hx
  have hne : bj ≠ y := by
    intro he
    have h1 : bj.toNat = bj.toNat ^^^ x := by rw [← hyn, ← he]
    have h2 : bj.toNat ^^^ 0 = bj.toNat ^^^ x := by rw [Nat.xor_zero]; exact h1
    exact hx0 (xor_lc h2).symm
  have hscan : scan ((enc ys).set P y) = ys.take j := by
    rw [hP, ← hF]
    refine rot_scan ys HGY.out j r f hf (by omega) y ?_
    rw [hF, ← hP, hbj]
    exact hne
  have hPc : (u8s (enc ys))[P]? = some (.int .u8 (bj.toNat : Int)) := by
    simp only [u8s, u8v, List.getElem?_map]
    rw [List.getElem?_eq_getElem (by omega), ← hbj, List.getD_eq_getElem?_getD, List.getElem?_eq_getElem (by omega)]
    rfl
  have HSC := Lib.hid hscan
  have HP := Lib.hid hPc
  have HL := Lib.hid (show ((enc ys).set P y).length = T by rw [List.length_set, hencl])
  have HF := Lib.hid hF
  have HTK := Lib.hid (show (ys.take j).length = j by rw [List.length_take, HM.out]; omega)
  have HFT := Lib.hid (show decide (F = T) = false by simp; omega)
  have HXJ := Lib.hid (show (xs.take j).length = j by rw [List.length_take]; omega)
  have hxk : (ys.take j).map fk = xs.take j := by
    rw [← HY.out, ← List.map_take, List.take_take, Nat.min_eq_left (by omega)]
    exact fk_ku (fun g hg => HG.out g (by
      have : xs.take j = (xs.take 50).take j := by rw [List.take_take, Nat.min_eq_left (by omega)]
      rw [this] at hg
      exact List.mem_of_mem_take hg))
  have HXK := Lib.hid hxk
  have hend : ∀ q, q < m → (ends ys)[q]? = some (.int .i64 (size (ys.take (q + 1)) : Int)) := by
    intro q hq
    simp [ends, HM.out, hq]
  have HEND := Lib.hid hend
  have HE := Lib.hid hE
  have hb8 : bj.toNat < 256 := bj.toNat_lt
  clear hscan hPc hF hxk hend hE hne hyn hy hbj hEF hN hP hf
  generalize bj.toNat = bn at hxy HP hb8
  have g0 : (0 : Int) ≤ (j : Int) := by omega
  have g1 : (j : Int) < (m : Int) := by omega
  have g2 : (0 : Int) ≤ (P : Int) := by omega
  have g3 : (P : Int) < (T : Int) := by omega
  have g4 : (j : Int) ≤ (c : Int) := by omega
  have g5 : 0 < m := by omega
  have g6 : 0 < T := by omega
  simp only [maxLen] at hcm
  by_cases hj0 : j = 0
  · obtain rfl : F = 0 := by rw [← HF.out, hj0]; simp [size]
    subst hj0
    have e1' : (E : Int) - 4 = (N : Int) := by omega
    have e2' : (4 : Int) + (r : Int) = (P : Int) := by omega
    go_enter Try.func6, Try.ntmps6
    go_wp2_with (first
      | (go_at_call 17; go_loud (refine (row_good xs A c cells _ hl HD.out H.out R.out HG.out ys T m HY.out HTT.out HM.out).mono ?_); rintro e w1 ⟨Ab, cb, Be, ce, rfl, hob, hoe, hb1⟩; obtain ⟨hcb, ga, rfl, hga, hga2⟩ := own_pos hob g6; obtain ⟨hce, gb, rfl, hgb, hgb2⟩ := own_pos hoe g5; have ccm := (sees_own' hob).2.2.1; have hfz := own_frozen hob P;
          have cE : w1.cell? ⟨gb, 0, none⟩ = some (.int .i64 (E : Int)) := (by obtain ⟨ad', e', hc'⟩ := (sees_own' hoe).2.2.2 0 _ (HEND.out 0 hj); cases e'; rw [add_base, HE.out] at hc'; exact hc');
          have cB : w1.cell? ⟨ga, P, none⟩ = some (.int .u8 (bn : Int)) := (by obtain ⟨ad', e', hc'⟩ := (sees_own' hob).2.2.2 P _ HP.out; cases e'; rw [add_base] at hc'; exact hc');
          have hset := own_set_u8 hob P y; have hB1 := hb1.setCell (p := ⟨ga, P, none⟩) hga (.int .u8 (y.toNat : Int)))
      | (go_at_call 14; go_loud (refine (scan_known (some ⟨ga, 0, none⟩) ((enc ys).set P y) T cb (ys.take 0) 0 0 false HSC.out HTK.out HF.out HL.out HFT.out _ hcb ccm (by omega) (by exact (sees_own' hset).2.2.2)).mono ?_); rintro e w2 ⟨A2, c2, cells2, rfl, hc2, hs2, hr2, hb2⟩; have hB2 := below_step hB1 hB1.size hb2)
      | (go_at_call 16; go_loud (refine (same_at (xs.take 0) 0 HXJ.out A2 A c2 c cells2 (cells.take (0 * 2)) _ (by omega) (by exact hs2) (by exact (H.out.below hB2).take _) (by exact (by have h5 := hr2; rw [HXK.out] at h5; exact h5)) (by exact frSeen_below (R.out.take 0) hB2)).mono ?_); rintro e w' ⟨rfl, nq, rfl⟩)
      | (go_at_call 13; go_loud (refine (knows_yes _).mono ?_); rintro e w3 ⟨rfl, hb3⟩)
      | fail)
    go_ret
    exact ⟨rfl, below_step (below_draws hB2 nq) hB2.size hb3⟩
  · obtain ⟨jp, hjp⟩ : ∃ jp, j = jp + 1 := ⟨j - 1, by omega⟩
    have hj0' : (0 : Int) < (j : Int) := by omega
    have e3 : (j : Int) - 1 = (jp : Int) := by omega
    have g7 : (0 : Int) ≤ (jp : Int) := by omega
    have g8 : (jp : Int) < (m : Int) := by omega
    have HJ := Lib.hid hjp
    clear hjp
    go_enter Try.func6, Try.ntmps6
    go_wp2_with (first
      | (go_at_call 17; go_loud (refine (row_good xs A c cells _ hl HD.out H.out R.out HG.out ys T m HY.out HTT.out HM.out).mono ?_); rintro e w1 ⟨Ab, cb, Be, ce, rfl, hob, hoe, hb1⟩; obtain ⟨hcb, ga, rfl, hga, hga2⟩ := own_pos hob g6; obtain ⟨hce, gb, rfl, hgb, hgb2⟩ := own_pos hoe g5; have ccm := (sees_own' hob).2.2.1; have hfz := own_frozen hob P;
          have cE : w1.cell? ⟨gb, j, none⟩ = some (.int .i64 (E : Int)) := (by obtain ⟨ad', e', hc'⟩ := (sees_own' hoe).2.2.2 j _ (HEND.out j hj); cases e'; rw [add_base, HE.out] at hc'; exact hc');
          have cF : w1.cell? ⟨gb, jp, none⟩ = some (.int .i64 (F : Int)) := (by obtain ⟨ad', e', hc'⟩ := (sees_own' hoe).2.2.2 jp _ (HEND.out jp (by have := HJ.out; omega)); cases e'; rw [add_base, ← HJ.out, HF.out] at hc'; exact hc');
          have cB : w1.cell? ⟨ga, P, none⟩ = some (.int .u8 (bn : Int)) := (by obtain ⟨ad', e', hc'⟩ := (sees_own' hob).2.2.2 P _ HP.out; cases e'; rw [add_base] at hc'; exact hc');
          have hset := own_set_u8 hob P y; have hB1 := hb1.setCell (p := ⟨ga, P, none⟩) hga (.int .u8 (y.toNat : Int)))
      | (go_at_call 14; go_loud (refine (scan_known (some ⟨ga, 0, none⟩) ((enc ys).set P y) T cb (ys.take j) j F false HSC.out HTK.out HF.out HL.out HFT.out _ hcb ccm (by omega) (by exact (sees_own' hset).2.2.2)).mono ?_); rintro e w2 ⟨A2, c2, cells2, rfl, hc2, hs2, hr2, hb2⟩; have hB2 := below_step hB1 hB1.size hb2)
      | (go_at_call 16; go_loud (refine (same_at (xs.take j) j HXJ.out A2 A c2 c cells2 (cells.take (j * 2)) _ (by omega) (by exact hs2) (by exact (H.out.below hB2).take _) (by exact (by have h5 := hr2; rw [HXK.out] at h5; exact h5)) (by exact frSeen_below (R.out.take j) hB2)).mono ?_); rintro e w' ⟨rfl, nq, rfl⟩)
      | (go_at_call 13; go_loud (refine (knows_yes _).mono ?_); rintro e w3 ⟨rfl, hb3⟩)
      | fail)
    go_ret
    exact ⟨rfl, below_step (below_draws hB2 nq) hB2.size hb3⟩
end Go.Proofs.Ytfbcdlbcdaobcaa
