/-
  NetWalls: the walk.
-/
import Derived.Test.YtfhmdphcgcmaeaaNetW1
import Derived.Deep.LoopGhost
import Derived.Deep.CutBlock
import Derived.Deep.DeepCutAuto
set_option linter.unusedVariables false
set_option linter.unusedSimpArgs false
namespace Go.Proofs.Ytfhmdphcgcmaeaa
open Go.RowKit

theorem zeroBool (w : World) : (zeroValue 4).run Try.prog w = .ok (.bool false) w := by kernel_rfl
theorem intKeyed : Maps.Keyed Try.prog 3 := Maps.int_keyed Try.underlying3
/-- The map of the servers within. -/
abbrev InMap (w : World) (b n : Nat) (ids : List Int) : Prop := MapAt Try.prog 3 4 IntKey (.bool false) w b n (inM ids)
theorem InMap.get {w : World} {b n : Nat} {ids : List Int} (h : InMap w b n ids) {i : Int} (hi : (Lit.int .i64 i).wf = true) : (Instr.lookup 49 (.map (some b)) (.int .i64 i) false).run Try.prog w = .ok (.bool (ids.any (fun x => x == i))) w := by
  obtain ⟨c, hr, hc⟩ := h.look_bool (t := 49) intKeyed Try.underlying49 Try.underlying4 zeroBool (Maps.keyOf_int_mk Try.underlying3 hi) ⟨i, rfl⟩
  rw [hr]
  simp [inM] at hc
  rw [hc]
theorem InMap.made (w : World) : InMap (w.alloc (.map #[] 0)) w.heap.size 0 [] := by
  obtain ⟨D, h1, h2⟩ := MapAt.made (P := Try.prog) (k := 3) (e := 4) IntKey (.bool false) w
  refine ⟨D, h1, fun kl hk => ?_⟩
  rw [h2 kl hk]
  obtain ⟨i, rfl⟩ := hk
  rfl
/-- The two ends of a letter, asked of the map. -/
theorem ends_open {ids : List Int} (hs : ids.all serverB = true) {l : Lt} (hr : rightB l = true) (ho : openL (wallL ids) l = true) : ids.any (fun x => x == l.2.1) = ids.any (fun x => x == l.1) := by
  rw [openL_wall hs hr] at ho
  exact (eq_of_beq ho).symm
theorem ends_shut {ids : List Int} (hs : ids.all serverB = true) {l : Lt} (hr : rightB l = true) (ho : openL (wallL ids) l = false) : ids.any (fun x => x == l.2.1) = !(ids.any (fun x => x == l.1)) := by
  rw [openL_wall hs hr] at ho
  revert ho
  cases ids.any (fun x => x == l.1) <;> cases ids.any (fun x => x == l.2.1) <;> simp
set_option maxHeartbeats 8000000 in
set_option maxRecDepth 100000 in
theorem netWalls_any (A : Option Addr) (L : List Lt) (c : Nat) (B : Option Addr) (ids : List Int) (d : Nat) (w : World) (hL : SeenL w A L) (hI : Sees w B (ids.map intV)) (hIok : ∀ i ∈ ids, (Lit.int .i64 i).wf = true) (hlc : L.length ≤ c) (hl : L.length ≤ 140737488351232) (hid : ids.length ≤ d) (hi : ids.length ≤ 140737488351232) :
    Calls Try.prog 5 #[.slice A L.length c, .slice B ids.length d] w (RetBool w true) := by
  have HL := Lib.hid hL
  have HI := Lib.hid hI
  have HIO := Lib.hid hIok
  clear hL hI hIok
  have hpn := fun (W : World) (a : Addr) => run_eql_pointer_nil (P := Try.prog) W 24 (some a)
  have hmm := @run_makeMap Try.prog
  go_enter Try.func5, Try.ntmps5
  go_wp2_with fail
  refine (new_ok 10000 w (by decide) (by decide)).mono ?_
  rintro e w1 ⟨rfl, hn1, hb1⟩
  have J1 : WInv w w.heap.size 10000 [] open16 w1 := ⟨hn1, Fit.nil (by decide) (by decide), hb1⟩
  have HJ1 := Lib.hid J1
  clear hn1 hb1 J1
  go_wp2_with (first
    | (go_at_call 9; refine (num_any _ _).mono ?_; rintro e w' ⟨rfl, rfl⟩)
    | (go_at_call 19; refine (HJ1.out.wall none 0 [] (by decide) (by decide) (Sees.nil _ _)).mono ?_; rintro e w2 ⟨rfl, hj2, _⟩; have e2 : wallE [] = 0 := (by decide); rw [e2] at hj2 ⊢; have HJ2 : Hid (WInv w w.heap.size 10000 [] open16 w2) := Lib.hid hj2; clear hj2)
    | (go_at_call 10; refine (knows_any _).mono ?_; rintro e w3 ⟨rfl, hb3⟩; have HJ3 := Lib.hid (HJ2.out.later hb3); clear hb3)
    | fail)
  clear HJ1 HJ2
  go_loopg [7, 8] L.length (fun gk s i wr => ∃ (k : Nat) (ls : List Lt), i = .int .i64 (k : Int) ∧ k ≤ L.length ∧ gk = L.length - k ∧ s = .int .i64 (ls.length : Int) ∧ ls.length ≤ k ∧ WInv w w.heap.size 10000 ls open16 wr)
  case atStart => exact ⟨0, [], rfl, Nat.zero_le _, rfl, rfl, Nat.le_refl _, HJ3.out⟩
  case round =>
    obtain ⟨k, ls, rfl, hkL, hgk, rfl, hlk, hj⟩ := hrel
    have HGK := Lib.hid hgk
    have HJ := Lib.hid hj
    clear hgk hj HJ3
    by_cases hk : k < L.length ∧ k < 100
    · obtain ⟨hkl, hk100⟩ := hk
      have hki1 : (k : Int) < (L.length : Int) := by omega
      have hki2 : (k : Int) < 100 := by omega
      obtain ⟨ad, A1, c1, rfl, r0, r1, r2, hc1, hl1, hS1⟩ := HL.out.at hkl
      have hblk := World.block_lt_of_cell? w _ r0
      have hblk' : (ad.add (k * 3)).block < w.heap.size := hblk
      have q0 := (HJ.out.2.2.cell hblk).trans r0
      have q1 := (HJ.out.2.2.cell (p := ⟨(ad.add (k * 3)).block, (ad.add (k * 3)).off + 1, none⟩) hblk').trans r1
      have q2 := (HJ.out.2.2.cell (p := ⟨(ad.add (k * 3)).block, (ad.add (k * 3)).off + 2, none⟩) hblk').trans r2
      obtain ⟨l, hll⟩ : ∃ l, L[k] = l := ⟨_, rfl⟩
      rw [hll] at q0 q1 q2 hc1 hl1 hS1
      have HS1 := Lib.hid (hS1.below HJ.out.2.2)
      clear hll hS1 r0 r1 r2 hblk hblk'
      by_cases hs : sendE 10000 ls.length l = 0
      · have HS := Lib.hid hs
        clear hs
        go_wp2_with (first
          | (go_at_call 12; refine (lawOwn_any l.1 l.2.1 A1 l.2.2 c1 _ hc1 hl1 HS1.out).mono ?_; rintro e w3 ⟨A3, c3, rfl, hown3, hb3⟩; have so3 := sees_own' hown3; have SO3 := Lib.hid so3.2; have HJ3 := Lib.hid (HJ.out.later hb3); clear so3 hown3 hb3)
          | (go_at_call 11; refine (HJ3.out.send l.1 l.2.1 A3 l.2.2 c3 SO3.out.1 (by omega) SO3.out.2.2).mono ?_; rintro e w4 ⟨rfl, hj4, _⟩; have e4 : sendE 10000 ls.length (l.1, l.2.1, l.2.2) = 0 := HS.out; have e5 : sendN 10000 ls (l.1, l.2.1, l.2.2) = ls ++ [l] := if_pos e4; rw [e5] at hj4; rw [e4]; have HJ4 := Lib.hid hj4; clear hj4 e4 e5)
          | (go_at_call 9; refine (num_any _ _).mono ?_; rintro e w' ⟨rfl, rfl⟩)
          | fail)
        go_roundg (L.length - (k + 1))
        case measure => have := HGK.out; omega
        case rel => exact ⟨k + 1, ls ++ [l], by go_num, by omega, rfl, by rw [List.length_append]; go_num, by simp; omega, HJ4.out⟩
      · obtain ⟨x, hx⟩ : ∃ x, sendE 10000 ls.length l = x := ⟨_, rfl⟩
        rw [hx] at hs
        have hx0 : (x == 0) = false := by simpa using hs
        have HX := Lib.hid hx
        clear hx hs
        go_wp2_with (first
          | (go_at_call 12; refine (lawOwn_any l.1 l.2.1 A1 l.2.2 c1 _ hc1 hl1 HS1.out).mono ?_; rintro e w3 ⟨A3, c3, rfl, hown3, hb3⟩; have so3 := sees_own' hown3; have SO3 := Lib.hid so3.2; have HJ3 := Lib.hid (HJ.out.later hb3); clear so3 hown3 hb3)
          | (go_at_call 11; refine (HJ3.out.send l.1 l.2.1 A3 l.2.2 c3 SO3.out.1 (by omega) SO3.out.2.2).mono ?_; rintro e w4 ⟨rfl, hj4, _⟩; have e4 : sendE 10000 ls.length (l.1, l.2.1, l.2.2) = x := HX.out; have e5 : sendN 10000 ls (l.1, l.2.1, l.2.2) = ls := if_neg (by rw [e4]; simpa using hx0); rw [e5] at hj4; rw [e4]; have HJ4 := Lib.hid hj4; clear hj4 e4 e5)
          | (go_at_call 9; refine (num_any _ _).mono ?_; rintro e w' ⟨rfl, rfl⟩)
          | fail)
        go_roundg (L.length - (k + 1))
        case measure => have := HGK.out; omega
        case rel => exact ⟨k + 1, ls, by go_num, by omega, rfl, rfl, by omega, HJ4.out⟩
    · clear HGK
      have hex : ¬ ((k : Int) < (L.length : Int)) ∨ ((k : Int) < (L.length : Int) ∧ ¬ ((k : Int) < 100)) := by omega
      have hidi : ids.length ≤ 9223372036854775807 := by omega
      have HW := Lib.hid (HJ.out.wall B d ids hid hidi (HI.out.below HJ.out.2.2))
      clear hk HL
      rcases hex with hki1 | ⟨hki1, hki2⟩
      all_goals
        go_wp2_with fail
        refine HW.out.mono ?_
        rintro e w5 ⟨rfl, hj5, _⟩
        by_cases hw0 : wallE ids = 0
        · rw [hw0, if_pos rfl] at hj5
          rw [hw0]
          have hall : ids.all serverB = true := by
            unfold wallE at hw0
            split at hw0
            · assumption
            · cases hw0
          have HALL := Lib.hid hall
          have HJ5 := Lib.hid hj5
          clear hw0 hall hj5 HW
          go_wp2_with (first
            | (go_at_call 9; refine (num_any _ _).mono ?_; rintro e w' ⟨rfl, rfl⟩)
            | fail)
          have hbm : w.heap.size ≤ w5.heap.size := HJ5.out.2.2.size
          have M6 := Lib.hid (InMap.made w5)
          have HJ6 := Lib.hid (HJ5.out.later ((Below.refl _ _).alloc (Nat.le_refl _) (.map #[] 0)))
          obtain ⟨bm, hbme⟩ : ∃ bm, w5.heap.size = bm := ⟨_, rfl⟩
          rw [hbme] at M6 hbm ⊢
          clear hbme HJ5
          go_loopg [10] ids.length (fun gk i wr => ∃ k : Nat, i = .int .i64 (k : Int) ∧ k ≤ ids.length ∧ gk = ids.length - k ∧ InMap wr bm k (ids.take k) ∧ WInv w w.heap.size 10000 ls (wallL ids) wr)
          case atStart => exact ⟨0, rfl, Nat.zero_le _, rfl, M6.out, HJ6.out⟩
          case round =>
            obtain ⟨k, rfl, hkl, hgk, hm, hj⟩ := hrel
            have HM := Lib.hid hm
            have HJ := Lib.hid hj
            have HGK := Lib.hid hgk
            clear hm hj hgk M6 HJ6
            by_cases hlt : k < ids.length
            · obtain ⟨ad, rfl, hcell0⟩ := HI.out k (intV ids[k]) (by rw [List.getElem?_map, List.getElem?_eq_getElem hlt]; rfl)
              have hcell := ((HJ.out.2.2.cell (World.block_lt_of_cell? w _ hcell0)).trans hcell0)
              have hwf := HIO.out _ (List.getElem_mem hlt)
              have htk : ids.take (k + 1) = ids.take k ++ [ids[k]] := by rw [List.take_succ_eq_append_getElem hlt]
              have HTK := Lib.hid htk
              have hki : (k : Int) < (ids.length : Int) := by omega
              unfold intV at hcell
              clear hcell0 htk
              go_wp2_with (first
                | (at_mapUpdate; refine wpList_mapUpdate_at rfl _ _ _ 49 rfl intKeyed Try.underlying49 rfl HM.out (by unfold maxLen; omega) _ _ (.int .i64 ids[k]) (.bool true) rfl rfl (Maps.keyOf_int_mk Try.underlying3 hwf) trivial (plainElem_bool Try.underlying4 true) (inM (ids.take k ++ [ids[k]])) (inM_same _ _) (fun kl' h1 h2 => inM_other _ _ _ h1 h2) ?_; intro w7 hM7 hg7; have HM7 := Lib.hid hM7; have HJ7 := Lib.hid (HJ.out.mapped HM.out hbm hg7); clear hM7 hg7)
                | fail)
              go_roundg (ids.length - (k + 1))
              case measure => have := HGK.out; omega
              case rel => exact ⟨k + 1, by go_num, by omega, rfl, by rw [HTK.out]; exact HM7.out, HJ7.out⟩
            · obtain rfl : k = ids.length := by omega
              have hki : ¬ ((ids.length : Int) < (ids.length : Int)) := by omega
              rw [List.take_length] at HM
              clear HGK hkl hlt
              go_wp2_with (first
                | (go_at_call 20; refine (HJ.out.next 0).mono ?_; rintro e w8 ⟨rfl, hb8⟩; have HJ8 := Lib.hid (HJ.out.later hb8); have HM8 := Lib.hid (HM.out.later hb8); clear hb8)
                | fail)
              clear HJ HM HI HIO hki
              go_loopg [11, 12] ls.length (fun gk s11 s12 wr => ∃ (ls' : List Lt) (kk tk : Nat), s11 = .int .i64 (tk : Int) ∧ s12 = .int .i64 (nextN (wallL ids) ls' kk) ∧ Shut (wallL ids) ls' kk ∧ ls'.length + tk = ls.length ∧ gk = ls'.length ∧ WInv w w.heap.size 10000 ls' (wallL ids) wr ∧ InMap wr bm ids.length ids)
              case atStart => exact ⟨ls, 0, 0, rfl, rfl, fun i hi => absurd hi (Nat.not_lt_zero _), rfl, rfl, HJ8.out, HM8.out⟩
              case round =>
                obtain ⟨ls', kk, tk, rfl, rfl, hsh, hlen, hgk, hj, hm⟩ := hrel
                have HSH := Lib.hid hsh
                have HLEN := Lib.hid hlen
                have HGK := Lib.hid hgk
                have HJ := Lib.hid hj
                have HM := Lib.hid hm
                clear hsh hlen hgk hj hm HJ8 HM8
                have hlb : ls'.length ≤ 10000 := by have := HJ.out.2.1.len; omega
                have htk : tk ≤ 9223372036854775000 := by have := HLEN.out; omega
                by_cases h0 : 0 ≤ nextN (wallL ids) ls' kk
                · obtain ⟨j, ej, hkj, hjl, hop, hbt⟩ := nextN_ge h0
                  rw [ej]
                  obtain ⟨te, tl, tn⟩ := take_open hjl hop
                  have hT := HJ.out.take (j : Int)
                  have hr := HJ.out.2.1.all _ (List.getElem_mem hjl)
                  rw [te, tl, tn] at hT
                  have HT := Lib.hid hT
                  have HEN := Lib.hid (ends_open HALL.out hr hop)
                  have HSV := Lib.hid (rightB_servers hr)
                  have HSE := Lib.hid (HSH.out.erase hkj (fun i h1 h2 h3 => hbt i h1 h2))
                  have HLE : Hid ((ls'.eraseIdx j).length + 1 = ls'.length) := Lib.hid (by rw [List.length_eraseIdx, if_pos hjl]; omega)
                  obtain ⟨l, hll⟩ : ∃ l, ls'[j] = l := ⟨_, rfl⟩
                  rw [hll] at HT HEN HSV
                  obtain ⟨ls2, hl2⟩ : ∃ ls2, ls'.eraseIdx j = ls2 := ⟨_, rfl⟩
                  rw [hl2] at HT HSE HLE
                  have hj0 : (0 : Int) ≤ (j : Int) := by omega
                  clear te tl tn hT hr ej h0 hbt hll hop hl2
                  go_wp2_with (first
                    | (go_at_call 13; refine HT.out.mono ?_; rintro e w9 ⟨⟨A9, c9, rfl, _⟩, hj9, hs9⟩; have hb9 := (Below.refl w9.heap.size w9).alloc (Nat.le_refl _) (.cells #[.int .i64 l.1, .int .i64 l.2.1, .slice A9 l.2.2.length c9] 33); have HJ9 := Lib.hid (hj9.later hb9); have hM9 := (HM.out.nstep hs9).later hb9; have HM9 := Lib.hid hM9; have g1 := InMap.get hM9 (serverB_wf HSV.out.1); have g2 := InMap.get hM9 (serverB_wf HSV.out.2); rw [HEN.out] at g2; clear hj9 hs9 hb9 hM9)
                    | (go_at_call 9; refine (num_any _ _).mono ?_; rintro e w' ⟨rfl, rfl⟩)
                    | (go_at_call 20; refine (HJ9.out.next (j : Int)).mono ?_; rintro e w10 ⟨rfl, hb10⟩; have HJ10 := Lib.hid (HJ9.out.later hb10); have HM10 := Lib.hid (HM9.out.later hb10); clear hb10)
                    | fail)
                  go_roundg ls2.length
                  case measure => have := HGK.out; have := HLE.out; omega
                  case rel => exact ⟨ls2, j, tk + 1, by go_num, rfl, HSE.out, by have := HLE.out; have := HLEN.out; omega, rfl, HJ10.out, HM10.out⟩
                · have hclosed := nextN_none (by omega : nextN (wallL ids) ls' kk < 0)
                  have hcl : ∀ (i : Nat) (hi : i < ls'.length), openL (wallL ids) ls'[i] = false := fun i hi => by
                    by_cases h : i < kk
                    · exact HSH.out i h hi
                    · exact hclosed i (by omega) hi
                  have HCL := Lib.hid hcl
                  have hneg : ¬ (0 ≤ nextN (wallL ids) ls' kk) := h0
                  obtain ⟨x, hx⟩ : ∃ x, nextN (wallL ids) ls' kk = x := ⟨_, rfl⟩
                  rw [hx] at hneg ⊢
                  clear hclosed hcl h0 hx HSH HGK
                  go_wp2_with (first
                    | (go_at_call 15; refine HJ.out.length.mono ?_; rintro e w' ⟨rfl, rfl⟩)
                    | fail)
                  clear hneg
                  go_loopg [16] ls'.length (fun gk s16 wr => ∃ k : Nat, s16 = .int .i64 (k : Int) ∧ k ≤ ls'.length ∧ gk = ls'.length - k ∧ WInv w w.heap.size 10000 ls' (wallL ids) wr ∧ InMap wr bm ids.length ids)
                  case atStart => exact ⟨0, rfl, Nat.zero_le _, rfl, HJ.out, HM.out⟩
                  case round =>
                    obtain ⟨k, rfl, hkl, hgk, hj, hm⟩ := hrel
                    have HGK := Lib.hid hgk
                    clear HJ HM hgk
                    have HJ := Lib.hid hj
                    have HM := Lib.hid hm
                    clear hj hm
                    by_cases hlt : k < ls'.length
                    · have hki : (k : Int) < (ls'.length : Int) := by omega
                      have hop := HCL.out k hlt
                      have hr := HJ.out.2.1.all _ (List.getElem_mem hlt)
                      obtain ⟨te, tl, tn⟩ := take_shut hlt hop
                      have hla : atE (k : Int) ls'.length = 0 := if_neg (by omega)
                      have hlk := HJ.out.look (k : Int)
                      rw [hla, lookL_some hlt] at hlk
                      have hTT := fun W' (hb : Later wr W') => HJ.out.take_far hb (k : Int)
                      rw [te, tl, tn] at hTT
                      have HEN := Lib.hid (ends_shut HALL.out hr hop)
                      have HSV := Lib.hid (rightB_servers hr)
                      have hbl := HJ.out.2.1.bytes _ (List.getElem_mem hlt)
                      obtain ⟨l, hll⟩ : ∃ l, ls'[k] = l := ⟨_, rfl⟩
                      rw [hll] at hlk HEN HSV hop hbl
                      have HOP : Hid (openB (wallL ids) l.1 l.2.1 l.2.2.length = false) := Lib.hid hop
                      have HLK := Lib.hid hlk
                      have HTT := Lib.hid hTT
                      clear te tl tn hla hlk hTT hr hop hll
                      go_wp2_with (first
                        | (go_at_call 16; refine HLK.out.mono ?_; rintro e w9 ⟨A9, c9, rfl, _, hb9⟩; have hba9 := hb9.alloc hb9.size (.cells #[.int .i64 l.1, .int .i64 l.2.1, .slice A9 l.2.2.length c9] 33); have HBA9 := Lib.hid hba9; have HZ9 := Lib.hid hb9.size; clear hb9 hba9)
                        | (go_at_call 13; refine (HTT.out _ HBA9.out).mono ?_; rintro e w10 ⟨⟨A10, c10, rfl, _⟩, hj10, hs10⟩; have x9 := heap_alloc_new w9 (.cells #[.int .i64 l.1, .int .i64 l.2.1, .slice A9 l.2.2.length c9] 33); have x10 := (hs10.far HZ9.out (by simp)).trans x9; have hb10 := (Below.refl w10.heap.size w10).alloc (Nat.le_refl _) (.cells #[.int .i64 0, .int .i64 0, .slice A10 0 c10] 33); have y10 := (hb10.block _ (Array.getElem?_eq_some_iff.1 x10).1).trans x10; have z0 := cell_of_row _ _ 0 _ _ _ y10; have z1 := cell_of_row _ _ 1 _ _ _ y10; have z2 := cell_of_row _ _ 2 _ _ _ y10; simp at z0 z1 z2; have HJ10 := Lib.hid (hj10.later hb10); have hM10 := (HM.out.fstep HBA9.out hs10).later hb10; have HM10 := Lib.hid hM10; have g1 := InMap.get hM10 (serverB_wf HSV.out.1); have g2 := InMap.get hM10 (serverB_wf HSV.out.2); rw [HEN.out] at g2; clear hj10 hs10 hb10 hM10 x9 x10 y10)
                        | (go_at_call 9; refine (num_any _ _).mono ?_; rintro e w' ⟨rfl, rfl⟩)
                        | (go_at_call 21; refine (HJ10.out.opens l.1 l.2.1 A9 l.2.2.length c9 (by omega)).mono ?_; rintro e w11 ⟨rfl, hb11⟩; rw [HOP.out]; have HJ11 := Lib.hid (HJ10.out.later hb11); have HM11 := Lib.hid (HM10.out.later hb11); clear hb11)
                        | fail)
                      go_roundg (ls'.length - (k + 1))
                      case measure => have := HGK.out; omega
                      case rel => exact ⟨k + 1, by go_num, by omega, rfl, HJ11.out, HM11.out⟩
                    · have hki : ¬ ((k : Int) < (ls'.length : Int)) := by omega
                      have hs1 : (ls'.length : Int) + (tk : Int) ≤ (ls.length : Int) := by have := HLEN.out; omega
                      have hs2 : (ls.length : Int) ≤ (ls'.length : Int) + (tk : Int) := by have := HLEN.out; omega
                      have HWN := Lib.hid (HJ.out.wall none 0 [] (by decide) (by decide) (Sees.nil _ _))
                      clear HGK HLEN HM HCL
                      go_wp2_with (first
                        | (go_at_call 19; refine HWN.out.mono ?_; rintro e w12 ⟨rfl, hj12, _⟩; have e12 : wallE [] = 0 := (by decide); rw [e12] at hj12 ⊢; have HJ12 : Hid (WInv w w.heap.size 10000 ls' open16 w12) := Lib.hid hj12; clear hj12 e12)
                        | (go_at_call 9; refine (num_any _ _).mono ?_; rintro e w' ⟨rfl, rfl⟩)
                        | fail)
                      clear HJ HWN hki hs1 hs2
                      go_loopg [21] ls'.length (fun gk s21 wr => ∃ (k : Nat) (ls3 : List Lt), s21 = .int .i64 (k : Int) ∧ k + ls3.length = ls'.length ∧ gk = ls3.length ∧ WInv w w.heap.size 10000 ls3 open16 wr)
                      case atStart => exact ⟨0, ls', rfl, by omega, rfl, HJ12.out⟩
                      case round =>
                        obtain ⟨k, ls3, rfl, hkl, hgk, hj⟩ := hrel
                        have HGK := Lib.hid hgk
                        have HJ := Lib.hid hj
                        have HKL := Lib.hid hkl
                        clear hkl hgk hj HJ12
                        cases ls3 with
                        | nil =>
                          have hki : ¬ ((k : Int) < (ls'.length : Int)) := by have := HKL.out; simp at this; omega
                          go_wp2_with (first
                            | (go_at_call 15; refine HJ.out.length.mono ?_; rintro e w' ⟨rfl, rfl⟩)
                            | fail)
                          go_ret
                          exact ⟨rfl, HJ.out.2.2⟩
                        | cons l3 rest =>
                          have hki : (k : Int) < (ls'.length : Int) := by have := HKL.out; simp at this; omega
                          have hT := HJ.out.take 0
                          obtain ⟨te, tl, tn⟩ := take_first HJ.out.2.1
                          rw [te, tl, tn] at hT
                          have HT := Lib.hid hT
                          clear hT te tl tn
                          go_wp2_with (first
                            | (go_at_call 13; refine HT.out.mono ?_; rintro e w13 ⟨⟨A13, c13, rfl, _⟩, hj13, _⟩; have HJ13 := Lib.hid (hj13.later ((Below.refl w13.heap.size w13).alloc (Nat.le_refl _) (.cells #[.int .i64 l3.1, .int .i64 l3.2.1, .slice A13 l3.2.2.length c13] 33))); clear hj13)
                            | (go_at_call 9; refine (num_any _ _).mono ?_; rintro e w' ⟨rfl, rfl⟩)
                            | fail)
                          go_roundg rest.length
                          case measure => have := HGK.out; simp at this; omega
                          case rel => exact ⟨k + 1, rest, by go_num, by have := HKL.out; simp at this; omega, rfl, HJ13.out⟩
        · obtain ⟨x, hx⟩ : ∃ x, wallE ids = x := ⟨_, rfl⟩
          rw [if_neg hw0] at hj5
          rw [hx] at hw0 ⊢
          have hx0 : (x == 0) = false := by simpa using hw0
          have HJ5 := Lib.hid hj5
          clear hx hw0 hj5 HW
          go_wp2_with (first
            | (go_at_call 9; refine (num_any _ _).mono ?_; rintro e w' ⟨rfl, rfl⟩)
            | (go_at_call 15; refine HJ5.out.length.mono ?_; rintro e w' ⟨rfl, rfl⟩)
            | fail)
          go_ret
          exact ⟨by simp, HJ5.out.2.2⟩
end Go.Proofs.Ytfhmdphcgcmaeaa
