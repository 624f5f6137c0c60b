/-
  The law FrameScans: the walk.
-/
import Derived.Test.YtfbcdlbcdaobcaaSame
set_option linter.unusedVariables false
set_option linter.unusedSimpArgs false
namespace Go.Proofs.Ytfbcdlbcdaobcaa
open Go.RowKit

theorem Recs.map {α β : Type} {R : World → α → List Value → Prop} {R' : World → β → List Value → Prop} {sz : Nat} {w w' : World} {xs : List α} {cells : List Value} (g : α → β) (h : Recs R sz w xs cells)
    (hi : ∀ (j : Nat) (x : α) (cs : List Value), xs[j]? = some x → R w x cs → R' w' (g x) cs) : Recs R' sz w' (xs.map g) cells := by
  obtain ⟨css, h1, h2, h3⟩ := h
  refine ⟨css, h1, by simpa using h2, fun j y cs hy hc => ?_⟩
  rw [List.getElem?_map, Option.map_eq_some_iff] at hy
  obtain ⟨x, hx, rfl⟩ := hy
  exact ⟨(h3 j x cs hx hc).1, hi j x cs hx (h3 j x cs hx hc).2⟩
/-- A frame, its kind a number. -/
def fk (f : UInt8 × List UInt8) : Int × List UInt8 := ((f.1.toNat : Int), f.2)
theorem frOwn_seen {base : Nat} {w w' : World} {xs : List (UInt8 × List UInt8)} {cells : List Value} (h : Recs (frOwn base) 2 w xs cells) (hb : Below w.heap.size w w') : Recs frSeen 2 w' (xs.map fk) cells :=
  h.map fk fun j x cs _ ⟨A, c, e, ho⟩ => ⟨A, c, e, (sees_own' (own_keep ho hb)).2.2.2⟩
/-- A frame in memory, whatever bytes its data has come to hold. -/
def frAny (base : Nat) (W : World) (f : UInt8 × List UInt8) (cs : List Value) : Prop :=
  ∃ A c bs, cs = [.int .i64 (f.1.toNat : Int), .slice A f.2.length c] ∧ bs.length = f.2.length ∧ W.ownsRow base 5 1 (.slice A f.2.length c) f.2.length (u8s bs)
/-- Another block's cell is written. -/
theorem own_set_far {w : World} {b s n : Nat} {e : TypeId} {v : Value} {xs : List Value} (h : w.ownsRow b e s v n xs) (p : Addr) (u : Value) (hne : v.ownBlock ≠ some p.block) : (w.setCell p u).ownsRow b e s v n xs := by
  obtain ⟨h1, h2⟩ := h
  refine ⟨h1, ?_⟩
  rcases h2 with h2 | ⟨g, cap, cur, hv, hb, hh, r⟩
  · exact .inl h2
  · refine .inr ⟨g, cap, cur, hv, hb, (Below.heap_setCell w p u g (fun eq => hne ?_)).trans hh, r⟩
    rw [hv, ← eq]
    rfl
theorem own_type {w : World} {b b' s s' n n' : Nat} {e e' : TypeId} {v v' : Value} {xs xs' : List Value} (h : w.ownsRow b e s v n xs) (h' : w.ownsRow b' e' s' v' n' xs') (g : Nat) (e1 : v.ownBlock = some g) (e2 : v'.ownBlock = some g) : e = e' := by
  rcases h.2 with ⟨rfl, _⟩ | ⟨g1, cap1, cur1, rfl, _, hh1, _⟩
  · simp [Value.ownBlock] at e1
  rcases h'.2 with ⟨rfl, _⟩ | ⟨g2, cap2, cur2, rfl, _, hh2, _⟩
  · simp [Value.ownBlock] at e2
  obtain rfl : g1 = g := by simpa [Value.ownBlock] using e1
  obtain rfl : g2 = g1 := by simpa [Value.ownBlock] using e2
  rw [hh1] at hh2
  injection hh2 with hh2
  injection hh2 with _ ht
theorem frAny_set {base : Nat} {W : World} {g n c j : Nat} {bs : List UInt8} (ho : W.ownsRow base 5 1 (.slice (some ⟨g, 0, none⟩) n c) n (u8s bs)) {f : UInt8 × List UInt8} {cs : List Value} (h : frAny base W f cs) (y : UInt8) :
    frAny base (W.setCell ⟨g, j, none⟩ (.int .u8 (y.toNat : Int))) f cs := by
  obtain ⟨A, c', bs', e, hl, h2⟩ := h
  by_cases hg : (Value.slice A f.2.length c').ownBlock = some g
  · obtain ⟨ad, rfl⟩ : ∃ ad, A = some ad := by
      cases A with
      | none => simp [Value.ownBlock] at hg
      | some ad => exact ⟨ad, rfl⟩
    obtain rfl : ad = ⟨g, 0, none⟩ := by
      rcases h2.2 with ⟨h3, _⟩ | ⟨g', cap', cur', h3, _⟩
      · cases h3
      · cases h3
        simp [Value.ownBlock] at hg
        rw [hg]
    exact ⟨_, c', bs'.set j y, e, by rw [List.length_set]; exact hl, own_set_u8 h2 j y⟩
  · exact ⟨A, c', bs', e, hl, own_set_far h2 _ _ hg⟩
/-- Between two rounds of the loops that overwrite. -/
def scansOk (w1 : World) (xs : List (UInt8 × List UInt8)) (A : Option Addr) (c : Nat) (cells : List Value) (W : World) : Prop :=
  W.ownsRow w1.heap.size 37 2 (.slice A xs.length c) xs.length cells ∧ Recs (frAny w1.heap.size) 2 W xs cells ∧ Below w1.heap.size w1 W
def scansRel (w1 : World) (xs : List (UInt8 × List UInt8)) (A : Option Addr) (c : Nat) (cells : List Value) (n : Nat) (i : Value) (W : World) : Prop := ∃ k : Nat, k ≤ n ∧ i = .int .i64 (k : Int) ∧ scansOk w1 xs A c cells W

theorem size_mem {l : List (UInt8 × List UInt8)} {i : Nat} {f : UInt8 × List UInt8} (h : l[i]? = some f) : f.2.length ≤ size l := by
  have hm := List.mem_of_getElem? h
  clear h
  induction l with
  | nil => cases hm
  | cons x l ih =>
    rw [size_cons]
    rcases List.mem_cons.1 hm with rfl | hm
    · omega
    · have := ih hm
      omega
set_option maxHeartbeats 4000000 in
theorem frameScans_any (A : Option Addr) (bs : List UInt8) (c : Nat) (w : World) (hc : bs.length ≤ c) (hcm : c ≤ maxLen) (hl : bs.length ≤ 1048576) (h : Sees w A (u8s bs)) :
    Calls Try.prog 4 #[.slice A bs.length c] w (RetBool w true) := by
  have H := Lib.hid h
  clear h
  have hsz : (scan bs).length ≤ 1048576 := by
    have h1 : (scan bs).length * 9 ≤ size (scan bs) := size_ge _
    have h2 := scan_le _ bs (Nat.le_refl _)
    omega
  have HM := Lib.hid (show ((scan bs).map fk).length = (scan bs).length by simp)
  go_enter Try.func4, Try.ntmps4
  go_wp2_with (first
    | (go_at_call 9; go_loud (refine (lent_any A bs c _ hc (by omega) H.out).mono ?_); rintro e w1 ⟨g, c1, rfl, hown1, hb1⟩; have ho1 := sees_own' hown1; have hse1 : Sees w1 (some ⟨g, 0, none⟩) (u8s bs) := by have := ho1.2.2.2.take bs.length; rwa [← u8s_take, List.take_left' rfl] at this)
    | (go_at_call 14; go_loud (refine (scan_any (some ⟨g, 0, none⟩) bs c1 _ (by omega) ho1.2.2.1 (by omega) (by exact hse1)).mono ?_); rintro e w2 ⟨A2, c2, cells2, rfl, hown2, hrec2, hb2⟩)
    | (go_at_call 15; go_loud (refine (refScan_any A bs c _ hc hcm (by omega) (by exact (H.out.below hb1).below hb2)).mono ?_); rintro e w3 ⟨A3, c3, cells3, rfl, hown3, hrec3, hb3⟩)
    | (go_at_call 16; have hx := hb3; rw [← HM.out]; go_loud (refine (same_yes ((scan bs).map fk) A2 A3 c2 c3 cells2 cells3 _ (by rw [HM.out]; omega) (by exact (sees_own' (own_keep hown2 hb3)).2.2.2) (by exact (sees_own' hown3).2.2.2) (by exact frOwn_seen hrec2 hb3) (by exact frOwn_seen hrec3 (Below.refl _ _))).mono ?_); rintro e w' ⟨rfl, nq0, rfl⟩)
    | (go_at_call 12; go_loud (refine (stays_yes (some ⟨g, 0, none⟩) bs.length c1 A bs c _ (by exact ho1.2.1) (by exact ho1.2.2.1) hc (by omega) (by exact ((ho1.2.2.2.below hb2).below hb3).drewN nq0) (by exact (((H.out.below hb1).below hb2).below hb3).drewN nq0)).mono ?_); rintro e w' ⟨rfl, nq, rfl⟩)
    | fail)
  have hok : scansOk w1 (scan bs) A2 c2 cells2 w3 := ⟨own_keep hown2 hb3, hrec2.imp fun j f cs _ ⟨A, c, e, ho⟩ => ⟨A, c, f.2, e, rfl, own_keep ho hb3⟩, below_step hb2 hb2.size hb3⟩
  have HB1 := Lib.hid hb1
  have HS1 := Lib.hid hse1
  clear hown2 hrec2 hb2 hown3 hrec3 hb3 hown1 ho1 hb1 hse1
  have hxl := Lib.hid (scan_le _ bs (Nat.le_refl _))
  obtain ⟨xs, hxs⟩ : ∃ xs, scan bs = xs := ⟨_, rfl⟩
  rw [hxs] at hxl
  rw [hxs] at hok hsz ⊢
  clear hxs HM
  go_loopw [11] (fun i wr => scansRel w1 xs A2 c2 cells2 xs.length i wr) (fun i _ => xs.length - (intOf i).toNat)
  case atStart => exact ⟨0, Nat.zero_le _, rfl, by exact ⟨hok.1, hok.2.1, below_draws hok.2.2 _⟩⟩
  case round =>
    clear hok
    obtain ⟨i, hi, rfl, hok⟩ := hrel
    by_cases hlt : i < xs.length
    · obtain ⟨_, g2, rfl, _, _⟩ := own_pos hok.1 (by omega)
      obtain ⟨f, hf⟩ : ∃ f, xs[i]? = some f := ⟨xs[i], by simp [hlt]⟩
      have HF := Lib.hid hf
      clear hf
      go_wp2
      go_loopw [12] (fun j wr => scansRel w1 xs (some ⟨g2, 0, none⟩) c2 cells2 f.2.length j wr) (fun j _ => f.2.length - (intOf j).toNat)
      case atStart => exact ⟨0, Nat.zero_le _, rfl, by exact hok⟩
      case round =>
        clear hok
        obtain ⟨j, hj, rfl, hok⟩ := hrel
        obtain ⟨cs, hcl, ⟨A1, c4, bs', rfl, hbl, ho⟩, hget⟩ := hok.2.1.get HF.out
        have hcell : wr.cell? ⟨g2, i * 2 + 1, none⟩ = some (.slice A1 f.2.length c4) := by
          obtain ⟨ad, e, h2⟩ := (sees_own' hok.1).2.2.2 (i * 2 + 1) _ (hget 1 _ rfl)
          cases e
          rwa [add_base] at h2
        have hfl : f.2.length ≤ 140737488355328 := Nat.le_trans (size_mem HF.out) (Nat.le_trans hxl.out (by omega))
        by_cases hjl : j < f.2.length
        · obtain ⟨_, g1, rfl, hg1, _⟩ := own_pos ho (by omega)
          have hfz := own_frozen ho j
          obtain ⟨y, hy⟩ : ∃ y, wr.cell? ⟨g1, j, none⟩ = some (.int .u8 y) := by
            obtain ⟨ad, e, h2⟩ := u8_at (sees_own' ho).2.2.2 j (by omega)
            cases e
            rw [add_base] at h2
            exact ⟨_, h2⟩
          have hnew : scansOk w1 xs (some ⟨g2, 0, none⟩) c2 cells2 (wr.setCell ⟨g1, j, none⟩ (.int .u8 0)) := by
            refine ⟨own_set_far hok.1 _ _ (fun e => ?_), hok.2.1.imp fun _ _ _ _ hR => frAny_set ho hR 0, hok.2.2.setCell (p := ⟨g1, j, none⟩) hg1 _⟩
            exact absurd (own_type hok.1 ho g1 e rfl) (by decide)
          go_wp2
          go_roundw
          case rel => exact ⟨j + 1, by omega, by go_num, hnew⟩
          case measure => simp [intOf]; omega
        · obtain rfl : j = f.2.length := by omega
          go_wp2
          go_roundw
          case rel => exact ⟨i + 1, by omega, by go_num, hok⟩
          case measure => simp [intOf]; omega
    · obtain rfl : i = xs.length := by omega
      have q1 := run_string_sees wr _ _ _ Try.underlying22 Try.underlying5 Try.underlying9 _ _ c1 bs rfl (HS1.out.below hok.2.2)
      have q2 := run_string_sees wr _ _ _ Try.underlying22 Try.underlying5 Try.underlying9 _ _ c bs rfl ((H.out.below HB1.out).below hok.2.2)
      go_wp2_with (first
        | (go_at_call 13; go_loud (refine (knows_yes _).mono ?_); rintro e w9 ⟨rfl, hb9⟩)
        | fail)
      go_ret
      have hB := below_step HB1.out HB1.out.size hok.2.2
      exact ⟨rfl, below_step hB hB.size hb9⟩
end Go.Proofs.Ytfbcdlbcdaobcaa
