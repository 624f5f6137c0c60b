/-
  settle: what a server alone commits.
-/
import Derived.Test.YtoongmoajnedlaaGreatPutA
import Derived.Test.YtoongmoajnedlaaGreatVcC
import Derived.Test.YtoongmoajnedlaaGreatVcA
import Derived.Maps.OwnOps
import Derived.Maps.Views
import Derived.Maps.Keyed
set_option linter.unusedVariables false
set_option linter.unusedSimpArgs false
namespace Go.Proofs.YtoongmoajnedlaaGreat
open Go.RowKit Go.Maps

/-- A map of peers in which there is none. -/
def zeroPeer : Value := .agg #[.int .i64 0, .int .i64 0]
noncomputable def peerR (v : Value) : Option (DataW Unit × List MemPlace) := by
  classical
  exact if v = zeroPeer then some (.lit (.bool false), []) else none
def NoPeers (W : World) (pb : Nat) : Prop := W.ownsMap Tryz.prog 3 peerR pb 0 (.map [])
theorem keyedI : Keyed Tryz.prog 3 := int_keyed Tryz.underlying3
theorem NoPeers.block {W W' : World} {pb : Nat} (h : NoPeers W pb) (hb : W'.heap[pb]? = W.heap[pb]?) : NoPeers W' pb := by
  obtain ⟨es, clock, h1, h2⟩ := h
  exact ⟨es, clock, hb.trans h1, h2⟩
theorem NoPeers.look {W : World} {pb : Nat} (h : NoPeers W pb) (x : Int) (hx : (Lit.int .i64 x).wf = true) : (Instr.lookup 72 (.map (some pb)) (.int .i64 x) false).run Tryz.prog W = .ok zeroPeer W := by
  obtain ⟨v, ps, hrun, hv⟩ := h.lookup (t := 72) (e := 124) (z := zeroPeer) (zd := .lit (.bool false)) (zp := []) keyedI Tryz.underlying72 (by kernel_rfl) (by simp [peerR]) (keyOf_int_mk Tryz.underlying3 hx)
  have : v = zeroPeer := by
    unfold peerR at hv
    split at hv
    · assumption
    · cases hv
  rw [hrun, this]
/-- What it has is one entry of its own. -/
def oneE (t : Int) : List Ent := [⟨t, 1, 1, []⟩]
theorem one_seen {W : World} {A A3 : Option Addr} {t : Int} {c3 : Nat} (h : Sees W A (four t 1 1 A3 0 c3)) : SeenE W A (oneE t) :=
  ⟨four t 1 1 A3 0 c3, h, by
    have := (Recs.nil (R := EntR) (sz := 4) (w := W)).snoc (x := ⟨t, 1, 1, []⟩) (cs := four t 1 1 A3 0 c3) rfl ⟨A3, c3, rfl, Nat.zero_le _, Sees.nil _ _⟩
    exact this⟩
theorem one_right : rightV ⟨0, 0, oneE 1⟩ = true := by simp [rightV, oneE, rowB, rightE]
theorem one_commit {r : Int} (h : CommitIs ⟨0, 0, oneE 1⟩ 1 0 1 r) : r = 1 := by
  rcases h with ⟨h, _⟩ | ⟨_, ⟨n, h1, _, h3, _, _, _, rfl⟩ | ⟨h, _⟩⟩
  · rw [one_right] at h
    cases h
  · omega
  · exact absurd (by decide) (h 1 (by decide) (by decide) (by decide) (by decide))
theorem nth_one : nthV 1 [1] = 1 := by
  have := nth_mem (P := pad 1 [1]) (by decide)
  unfold nthV
  rw [if_neg (by decide)]
  simpa [pad] using this
/-- Between two rounds. -/
def StI (w2 : World) (s3 s18 : Value) (wr : World) : Prop :=
  ∃ (k : Nat) (M : Option Addr) (cm : Nat), s18 = .int .i64 (k : Int) ∧ s3 = .slice M k cm ∧ k ≤ 1 ∧ wr.ownsRow w2.heap.size 3 1 (.slice M k cm) k ((List.replicate k (1 : Int)).map i64v) ∧ Below w2.heap.size w2 wr
set_option maxRecDepth 16384 in
set_option maxHeartbeats 4000000 in
theorem settle_one {b0 r : Nat} {s : RSt} {ops : List Value} {A3 : Option Addr} {c3 pb : Nat} (w : World) (h : Lone w b0 r s (four 1 1 1 A3 0 c3) ops) (hn : s.n = 1) (his : s.is = [s.id]) (hr : s.role = 3) (ht : s.term = 1) (hc : s.commit = 0) (hp : s.peers = .map (some pb)) (hnp : NoPeers w pb) (hwf : (Lit.int .i64 s.id).wf = true) :
    Calls Tryz.prog 64 #[.pointer (some ⟨r, 0, none⟩)] w (fun e w' => e = .returned (.tuple #[]) ∧ Lone w' b0 r { s with commit := 1 } (four 1 1 1 A3 0 c3) ops ∧ Outside (· = r) w w') := by
  have HS := Lib.hid (servers_any w h.logAt)
  have HL := Lib.hid (fun w' (hb : Below w.heap.size w w') => last_below w' (h.logAt.below hb))
  have H := Lib.hid h
  have HN := Lib.hid hn
  have HIS := Lib.hid his
  have HP := Lib.hid hp
  have HNP := Lib.hid hnp
  have HWF := Lib.hid hwf
  have HT := Lib.hid ht
  have HC := Lib.hid hc
  rw [hn] at HL
  rw [his] at HS
  obtain ⟨id, hid⟩ : ∃ id, s.id = id := ⟨_, rfl⟩
  rw [hid] at HIS HWF HS
  have HID := Lib.hid hid
  have c20 := h.at_.cell (j := 20) (v := .int .i64 3) (by rw [← hr]; rfl)
  have hk0 : Hid (∀ W', Below w.heap.size w W' → W'.cell? ⟨r, 0, none⟩ = some (.map (some pb)) ∧ W'.cell? ⟨r, 17, none⟩ = some (.int .i64 id)) := Lib.hid (fun W' hb => ⟨(h.below hb).at_.cell (by rw [← hp]; rfl), (h.below hb).at_.cell (by rw [← hid]; rfl)⟩)
  clear h hn his hp hnp hwf hid hr ht hc
  go_enter Tryz.func64, Tryz.ntmps64
  go_upto_region 2 with (first
    | (go_at_call 57; refine HS.out.mono ?_; rintro e w2 ⟨A2, c2, rfl, hown2, hb2⟩; have HO2 := Lib.hid hown2; have HB2 := Lib.hid hb2; clear hown2 hb2)
    | fail)
  have hs2 := (sees_own' HO2.out).2.2.2
  have REL : Hid (StI w2 (.slice none 0 0) (.int .i64 0) w2) := Lib.hid ⟨0, none, 0, rfl, rfl, Nat.zero_le _, ⟨rfl, .inl ⟨rfl, rfl⟩⟩, Below.refl _ _⟩
  have HSE : Hid (Sees w2 A2 [.int .i64 id]) := Lib.hid hs2
  clear hs2 c20
  go_wp2_with fail
  go_loopw [3, 18] (fun s3 s18 wr => StI w2 s3 s18 wr) (fun _ s18 _ => 1 - (intOf s18).toNat)
  case atStart => exact REL.out
  case round =>
    obtain ⟨k, M, cm, rfl, rfl, hk, hown, hb⟩ := hrel
    have hbw := below_step HB2.out HB2.out.size hb
    have HBR := Lib.hid hb
    have HBW := Lib.hid hbw
    have HOWN := Lib.hid hown
    obtain ⟨k0, k17⟩ := hk0.out wr hbw
    by_cases hk1 : k = 0
    · subst hk1
      obtain ⟨ad, rfl, hcell⟩ := C.ints_at (is := [id]) (HSE.out.below hb) 0 Nat.one_pos
      have hcell : wr.cell? ad = some (.int .i64 id) := by rw [add_zero'] at hcell; exact hcell
      have hlook := (HNP.out.block (hbw.block pb (by obtain ⟨_, _, h1, _⟩ := HNP.out; exact (Array.getElem?_eq_some_iff.1 h1).1))).look id HWF.out
      unfold zeroPeer at hlook
      have hb1 : (id == id) = true := by simp
      have hfd : (Instr.field 124 (.agg #[.int .i64 0, .int .i64 0]) 1).run Tryz.prog wr = .ok (.int .i64 0) wr := by kernel_rfl
      clear hown hb hbw
      go_wp2_with (first
        | (go_at_call 71; refine (HL.out _ HBW.out).mono ?_; rintro e w3 ⟨rfl, hb3⟩; have HB3 := Lib.hid hb3; have h3' := own_keep HOWN.out hb3; clear hb3)
        | (at_builtin; refine wpList_append_sees rfl (.tmp 40) (.tmp 42) 23 rfl w2.heap.size 3 (.int .i64 0) 1 8 Tryz.underlying23 C.infoInt rfl (by decide) (.slice M 0 cm) 0 ((List.replicate 0 (1 : Int)).map i64v) rfl (own_keep h3' ((Below.refl _ _).alloc (Nat.le_refl _) _)) (some ⟨w3.heap.size, 0, none⟩) 1 1 [.int .i64 1] rfl rfl (sees_new _ _ _) (by simp [Value.oneCell']) (by simp only [maxLen]; omega) (by omega) (by have := HBR.out.size; have := HB3.out.size; simp; omega) ?_; intro A4 c4 w4 hown4 hg4 hat4)
        | fail)
      have hb4 : Below w2.heap.size w2 w4 := below_grown_own ((below_step HBR.out HBR.out.size HB3.out).alloc (by have := HBR.out.size; have := HB3.out.size; omega) _) (by have := HBR.out.size; have := HB3.out.size; simp; omega) (own_keep h3' ((Below.refl _ _).alloc (Nat.le_refl _) _)) (Nat.le_refl _) hg4
      go_roundw
      case rel => exact ⟨1, A4, c4, rfl, rfl, Nat.le_refl _, hown4, hb4⟩
      case measure => simp [intOf]
    · obtain rfl : k = 1 := by omega
      have HSB : Hid (∀ W', Below wr.heap.size wr W' → W'.cell? ⟨r, 5, none⟩ = some (.int .i64 0) ∧ W'.cell? ⟨r, 6, none⟩ = some (.int .i64 0) ∧ W'.cell? ⟨r, 7, none⟩ = some (.slice s.A 1 s.c) ∧ W'.cell? ⟨r, 8, none⟩ = some (.int .i64 0) ∧ W'.cell? ⟨r, 18, none⟩ = some (.int .i64 1)) := Lib.hid (fun W' hb' => by
        have h9 := (H.out.below (below_step hbw hbw.size hb')).at_
        exact ⟨h9.cell (j := 5) rfl, h9.cell (j := 6) rfl, h9.cell (j := 7) (by rw [← HN.out]; rfl), h9.cell (j := 8) (by rw [← HC.out]; rfl), h9.cell (j := 18) (by rw [← HT.out]; rfl)⟩)
      have HCM : Hid (∀ W', Below wr.heap.size wr W' → Calls Tryz.prog 129 #[.agg #[.int .i64 0, .int .i64 0, .slice s.A 1 s.c], .slice A2 1 c2, .slice M 1 cm, .int .i64 0, .int .i64 1] W' (RetCommit ⟨0, 0, oneE 1⟩ 1 0 1 W')) := Lib.hid (fun W' hb' => by
        have h9 := commit_any ⟨0, 0, oneE 1⟩ s.A 1 s.c A2 M 1 c2 cm [1] 0 1 W' rfl (by decide) (one_seen (by rw [← HN.out] at *; exact (sees_own' (H.out.below (below_step hbw hbw.size hb')).log).2.2.2)) (fun x hx => by simp [oneE] at hx; subst hx; exact Nat.zero_le _) (by decide) (by have := (sees_own' hown).2.1; exact this) (by decide) ((sees_own' hown).2.2.2.below hb')
        rw [nth_one] at h9
        exact h9)
      clear hown hb hbw k0 k17 REL HSE
      go_upto_region 11 with fail
      have hS4 := HSB.out wr.drew (Below.refl _ _).drew
      refine wp_region_T 21 (fun W' => W'.cell? ⟨r, 5, none⟩ = some (.int .i64 0) ∧ W'.cell? ⟨r, 6, none⟩ = some (.int .i64 0) ∧ W'.cell? ⟨r, 7, none⟩ = some (.slice s.A 1 s.c) ∧ W'.cell? ⟨r, 8, none⟩ = some (.int .i64 0) ∧ W'.cell? ⟨r, 18, none⟩ = some (.int .i64 1)) (by kernel_rfl) ?_
--R11
      refine wpAnyT_take (i := 0) (v := ?va0) rfl (by kernel_rfl) (by kernel_rfl) (by kernel_rfl) (by kernel_rfl) (fun _ _ _ h => h) rfl (fun w' hS => ?ya0) hS4 ?za0
      case ya0 => (obtain ⟨s0, s1, s2, s3, s4⟩ := hS; go_simp; with_reducible rfl)
      try simp only [Act.put, List.getElem_toArray, List.getElem_cons_zero, List.getElem_cons_succ, List.setIfInBounds_toArray, List.set_cons_zero, List.set_cons_succ]
      refine wpAnyT_take (i := 1) (v := ?va1) rfl (by kernel_rfl) (by kernel_rfl) (by kernel_rfl) (by kernel_rfl) (fun _ _ _ h => h) rfl (fun w' hS => ?ya1) hS4 ?za1
      case ya1 => (obtain ⟨s0, s1, s2, s3, s4⟩ := hS; go_simp; with_reducible rfl)
      try simp only [Act.put, List.getElem_toArray, List.getElem_cons_zero, List.getElem_cons_succ, List.setIfInBounds_toArray, List.set_cons_zero, List.set_cons_succ]
      refine wpAnyT_take (i := 2) (v := ?va2) rfl (by kernel_rfl) (by kernel_rfl) (by kernel_rfl) (by kernel_rfl) (fun _ _ _ h => h) rfl (fun w' hS => ?ya2) hS4 ?za2
      case ya2 => (obtain ⟨s0, s1, s2, s3, s4⟩ := hS; go_simp; with_reducible rfl)
      try simp only [Act.put, List.getElem_toArray, List.getElem_cons_zero, List.getElem_cons_succ, List.setIfInBounds_toArray, List.set_cons_zero, List.set_cons_succ]
      refine wpAnyT_take (i := 3) (v := ?va3) rfl (by kernel_rfl) (by kernel_rfl) (by kernel_rfl) (by kernel_rfl) (fun _ _ _ h => h) rfl (fun w' hS => ?ya3) hS4 ?za3
      case ya3 => (obtain ⟨s0, s1, s2, s3, s4⟩ := hS; go_simp; with_reducible rfl)
      try simp only [Act.put, List.getElem_toArray, List.getElem_cons_zero, List.getElem_cons_succ, List.setIfInBounds_toArray, List.set_cons_zero, List.set_cons_succ]
      refine wpAnyT_take (i := 4) (v := ?va4) rfl (by kernel_rfl) (by kernel_rfl) (by kernel_rfl) (by kernel_rfl) (fun _ _ _ h => h) rfl (fun w' hS => ?ya4) hS4 ?za4
      case ya4 => (obtain ⟨s0, s1, s2, s3, s4⟩ := hS; go_simp; with_reducible rfl)
      try simp only [Act.put, List.getElem_toArray, List.getElem_cons_zero, List.getElem_cons_succ, List.setIfInBounds_toArray, List.set_cons_zero, List.set_cons_succ]
      refine wpAnyT_take (i := 5) (v := ?va5) rfl (by kernel_rfl) (by kernel_rfl) (by kernel_rfl) (by kernel_rfl) (fun _ _ _ h => h) rfl (fun w' hS => ?ya5) hS4 ?za5
      case ya5 => (obtain ⟨s0, s1, s2, s3, s4⟩ := hS; go_simp; with_reducible rfl)
      try simp only [Act.put, List.getElem_toArray, List.getElem_cons_zero, List.getElem_cons_succ, List.setIfInBounds_toArray, List.set_cons_zero, List.set_cons_succ]
      refine wpAnyT_take (i := 6) (v := ?va6) rfl (by kernel_rfl) (by kernel_rfl) (by kernel_rfl) (by kernel_rfl) (fun _ _ _ h => h) rfl (fun w' hS => ?ya6) hS4 ?za6
      case ya6 => (obtain ⟨s0, s1, s2, s3, s4⟩ := hS; go_simp; with_reducible rfl)
      try simp only [Act.put, List.getElem_toArray, List.getElem_cons_zero, List.getElem_cons_succ, List.setIfInBounds_toArray, List.set_cons_zero, List.set_cons_succ]
      refine wpAnyT_take (i := 7) (v := ?va7) rfl (by kernel_rfl) (by kernel_rfl) (by kernel_rfl) (by kernel_rfl) (fun _ _ _ h => h) rfl (fun w' hS => ?ya7) hS4 ?za7
      case ya7 => (obtain ⟨s0, s1, s2, s3, s4⟩ := hS; go_simp; with_reducible rfl)
      try simp only [Act.put, List.getElem_toArray, List.getElem_cons_zero, List.getElem_cons_succ, List.setIfInBounds_toArray, List.set_cons_zero, List.set_cons_succ]
      refine wpAnyT_take (i := 8) (v := ?va8) rfl (by kernel_rfl) (by kernel_rfl) (by kernel_rfl) (by kernel_rfl) (fun _ _ _ h => h) rfl (fun w' hS => ?ya8) hS4 ?za8
      case ya8 => (obtain ⟨s0, s1, s2, s3, s4⟩ := hS; go_simp; with_reducible rfl)
      try simp only [Act.put, List.getElem_toArray, List.getElem_cons_zero, List.getElem_cons_succ, List.setIfInBounds_toArray, List.set_cons_zero, List.set_cons_succ]
      refine wpAnyT_take (i := 9) (v := ?va9) rfl (by kernel_rfl) (by kernel_rfl) (by kernel_rfl) (by kernel_rfl) (fun _ _ _ h => h) rfl (fun w' hS => ?ya9) hS4 ?za9
      case ya9 => (obtain ⟨s0, s1, s2, s3, s4⟩ := hS; go_simp; with_reducible rfl)
      try simp only [Act.put, List.getElem_toArray, List.getElem_cons_zero, List.getElem_cons_succ, List.setIfInBounds_toArray, List.set_cons_zero, List.set_cons_succ]
      refine wpAnyT_take (i := 10) (v := ?va10) rfl (by kernel_rfl) (by kernel_rfl) (by kernel_rfl) (by kernel_rfl) (fun _ _ _ h => h) rfl (fun w' hS => ?ya10) hS4 ?za10
      case ya10 => (obtain ⟨s0, s1, s2, s3, s4⟩ := hS; go_simp; with_reducible rfl)
      try simp only [Act.put, List.getElem_toArray, List.getElem_cons_zero, List.getElem_cons_succ, List.setIfInBounds_toArray, List.set_cons_zero, List.set_cons_succ]
      refine wpAnyT_take (i := 11) (v := ?va11) rfl (by kernel_rfl) (by kernel_rfl) (by kernel_rfl) (by kernel_rfl) (fun _ _ _ h => h) rfl (fun w' hS => ?ya11) hS4 ?za11
      case ya11 => (obtain ⟨s0, s1, s2, s3, s4⟩ := hS; go_simp; with_reducible rfl)
      try simp only [Act.put, List.getElem_toArray, List.getElem_cons_zero, List.getElem_cons_succ, List.setIfInBounds_toArray, List.set_cons_zero, List.set_cons_succ]
      refine wpAnyT_take (i := 12) (v := ?va12) rfl (by kernel_rfl) (by kernel_rfl) (by kernel_rfl) (by kernel_rfl) (fun _ _ _ h => h) rfl (fun w' hS => ?ya12) hS4 ?za12
      case ya12 => (obtain ⟨s0, s1, s2, s3, s4⟩ := hS; go_simp; with_reducible rfl)
      try simp only [Act.put, List.getElem_toArray, List.getElem_cons_zero, List.getElem_cons_succ, List.setIfInBounds_toArray, List.set_cons_zero, List.set_cons_succ]
      refine wpAnyT_take (i := 13) (v := ?va13) rfl (by kernel_rfl) (by kernel_rfl) (by kernel_rfl) (by kernel_rfl) (fun _ _ _ h => h) rfl (fun w' hS => ?ya13) hS4 ?za13
      case ya13 => (obtain ⟨s0, s1, s2, s3, s4⟩ := hS; go_simp; with_reducible rfl)
      try simp only [Act.put, List.getElem_toArray, List.getElem_cons_zero, List.getElem_cons_succ, List.setIfInBounds_toArray, List.set_cons_zero, List.set_cons_succ]
      refine wpAnyT_take (i := 14) (v := ?va14) rfl (by kernel_rfl) (by kernel_rfl) (by kernel_rfl) (by kernel_rfl) (fun _ _ _ h => h) rfl (fun w' hS => ?ya14) hS4 ?za14
      case ya14 => (obtain ⟨s0, s1, s2, s3, s4⟩ := hS; go_simp; with_reducible rfl)
      try simp only [Act.put, List.getElem_toArray, List.getElem_cons_zero, List.getElem_cons_succ, List.setIfInBounds_toArray, List.set_cons_zero, List.set_cons_succ]
      refine wpAnyT_take (i := 15) (v := ?va15) rfl (by kernel_rfl) (by kernel_rfl) (by kernel_rfl) (by kernel_rfl) (fun _ _ _ h => h) rfl (fun w' hS => ?ya15) hS4 ?za15
      case ya15 => (obtain ⟨s0, s1, s2, s3, s4⟩ := hS; go_simp; with_reducible rfl)
      try simp only [Act.put, List.getElem_toArray, List.getElem_cons_zero, List.getElem_cons_succ, List.setIfInBounds_toArray, List.set_cons_zero, List.set_cons_succ]
      refine wpAnyT_take (i := 16) (v := ?va16) rfl (by kernel_rfl) (by kernel_rfl) (by kernel_rfl) (by kernel_rfl) (fun _ _ _ h => h) rfl (fun w' hS => ?ya16) hS4 ?za16
      case ya16 => (obtain ⟨s0, s1, s2, s3, s4⟩ := hS; go_simp; with_reducible rfl)
      try simp only [Act.put, List.getElem_toArray, List.getElem_cons_zero, List.getElem_cons_succ, List.setIfInBounds_toArray, List.set_cons_zero, List.set_cons_succ]
      refine wpAnyT_one (i := 17) (by kernel_rfl) rfl (fun K' hK => ?_)
      have HK9 := Lib.hid hK
      clear hK
      go_simp
      go_at_call 129
      refine (HCM.out _ (Below.refl _ _).drew).mono ?_
      rintro e w5 ⟨rr, rfl, hci, hb5⟩
      have hrr := one_commit hci
      subst hrr
      have hb5' := below_step (Below.refl wr.heap.size wr).drew (Nat.le_refl _) hb5
      have hS9 := HSB.out w5 hb5'
      have HB5 := Lib.hid hb5'
      have hf9 := (H.out.below (below_step HBW.out HBW.out.size hb5')).at_.frozen 8
      clear hci hb5 hb5'
      refine HK9.out _ _ (.inr hS9) ?_
      clear HK9
      try simp only [Act.put, List.getElem_toArray, List.getElem_cons_zero, List.getElem_cons_succ, List.setIfInBounds_toArray, List.set_cons_zero, List.set_cons_succ]
      refine wpAnyT_one (i := 18) (by kernel_rfl) rfl (fun K' hK => ?_)
      have HK9 := Lib.hid hK
      clear hK
      go_simp
      refine HK9.out _ _ (.inr hS9) ?_
      clear HK9
      try simp only [Act.put, List.getElem_toArray, List.getElem_cons_zero, List.getElem_cons_succ, List.setIfInBounds_toArray, List.set_cons_zero, List.set_cons_succ]
      refine wpAnyT_one (i := 19) (by kernel_rfl) rfl (fun K' hK => ?_)
      have HK9 := Lib.hid hK
      clear hK
      go_simp
      refine HK9.out _ _ (.inr hS9) ?_
      clear HK9
      try simp only [Act.put, List.getElem_toArray, List.getElem_cons_zero, List.getElem_cons_succ, List.setIfInBounds_toArray, List.set_cons_zero, List.set_cons_succ]
      refine wpAnyT_one (i := 20) (by kernel_rfl) rfl (fun K' hK => ?_)
      have HK9 := Lib.hid hK
      clear hK
      go_simp
      refine HK9.out _ _ (.inr hS9) ?_
      clear HK9
      try simp only [Act.put, List.getElem_toArray, List.getElem_cons_zero, List.getElem_cons_succ, List.setIfInBounds_toArray, List.set_cons_zero, List.set_cons_succ]
      refine wpAnyT_one (i := 21) (by kernel_rfl) rfl (fun K' hK => ?_)
      have HK9 := Lib.hid hK
      clear hK
      go_simp
      refine HK9.out _ _ (.inl rfl) ?_
      clear HK9
      try simp only [Act.put, List.getElem_toArray, List.getElem_cons_zero, List.getElem_cons_succ, List.setIfInBounds_toArray, List.set_cons_zero, List.set_cons_succ]
      refine wpAnyT_done (by kernel_rfl) ?_ _
--R11E
      have hb5 := below_step HBW.out HBW.out.size HB5.out
      have HL6 : Hid (Lone (w5.setCell ⟨r, 8, none⟩ (.int .i64 1)) b0 r { s with commit := 1 } (four 1 1 1 A3 0 c3) ops) := Lib.hid ((H.out.below hb5).set 8 _ _ rfl rfl)
      have HO6 : Hid (Outside (· = r) w (w5.setCell ⟨r, 8, none⟩ (.int .i64 1))) := Lib.hid ((Outside.of_below hb5).set _ _ (.inr rfl))
      clear hb5 hS9 hf9
      go_wp2_with fail
      go_end0
      exact ⟨rfl, HL6.out, HO6.out⟩
end Go.Proofs.YtoongmoajnedlaaGreat
