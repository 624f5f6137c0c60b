/-
  Package net: New and Send.
-/
import Derived.Test.YtfhmdphcgcmaeaaNet2
set_option linter.unusedVariables false
set_option linter.unusedSimpArgs false
namespace Go.Proofs.Ytfhmdphcgcmaeaa
open Go.RowKit

theorem new_arg (m : Int) (w : World) (h : m < 1 ∨ 10000 < m) : Calls Try.prog 8 #[.int .i64 m] w fun e w' => e = .returned (.tuple #[.pointer none, .int .i64 1]) ∧ w = w' := by
  rcases h with h | h
  · go_enter Try.func8, Try.ntmps8
    go_wp2
    go_ret2
    exact ⟨rfl, rfl⟩
  · have h' : ¬ m < 1 := by omega
    go_enter Try.func8, Try.ntmps8
    go_wp2
    go_ret2
    exact ⟨rfl, rfl⟩
def open16 : List Bool := List.replicate 16 false
def RetNew (m : Int) (w : World) (e : Ending) (w' : World) : Prop :=
  e = .returned (.tuple #[.pointer (some ⟨w.heap.size, 0, none⟩), .int .i64 0]) ∧ NetAt (fun b => w.heap.size ≤ b) w.heap.size m [] open16 w' ∧ Below w.heap.size w w'
theorem new_ok (m : Int) (w : World) (h1 : 1 ≤ m) (h2 : m ≤ 10000) : Calls Try.prog 8 #[.int .i64 m] w (RetNew m w) := by
  go_enter Try.func8, Try.ntmps8
  go_wp2
  go_ret2
  refine ⟨rfl, ⟨none, 0, [], ?_, rfl, Nat.le_refl _, ⟨rfl, .inl ⟨rfl, rfl⟩⟩, fun b hb => by simp [Value.ownBlock] at hb, Recs.nil⟩, (Below.refl _ w).alloc (Nat.le_refl _) _⟩
  exact heap_alloc_new w _

theorem infoLetter : (Try.prog.info? 33).map (fun i => (i.zero, i.size, i.bytes)) = some (some (.agg #[.int .i64 0, .int .i64 0, .slice none 0 0]), 3, 40) := by kernel_rfl
def sendE (most : Int) (n : Nat) (l : Lt) : Int := if rightB l = true then (if most ≤ (n : Int) then 7 else 0) else 1
/-- Behind Send. -/
def RetSend (S : Nat → Prop) (g : Nat) (most : Int) (ls : List Lt) (wl : List Bool) (l : Lt) (w : World) (e : Ending) (w' : World) : Prop :=
  e = .returned (.int .i64 (sendE most ls.length l)) ∧ NetAt (Plus S w) g most (if sendE most ls.length l = 0 then ls ++ [l] else ls) wl w' ∧ Outside S w w'
theorem own_notnet {W : World} {b sz n g : Nat} {e : TypeId} {v : Value} {xs : List Value} {most : Int} {A : Option Addr} {m c : Nat} {wl : List Bool} (h : W.ownsRow b e sz v n xs) (hg : W.heap[g]? = some (netObj most A m c wl)) (he : e ≠ 61 := by decide) : v.ownBlock ≠ some g := by
  intro eb
  rcases h.2 with ⟨rfl, _⟩ | ⟨g1, cap1, cur1, rfl, _, hh1, _⟩
  · simp [Value.ownBlock] at eb
  · obtain rfl : g1 = g := by simpa [Value.ownBlock] using eb
    rw [hg] at hh1
    unfold netObj at hh1
    injection hh1 with hh1
    injection hh1 with _ ht
    exact he ht.symm
theorem own_apart {w w1 : World} {b b' s s' n n' : Nat} {e e' : TypeId} {v v' : Value} {xs xs' : List Value} (h : w.ownsRow b e s v n xs) (h' : w.ownsRow b' e' s' v' n' xs') (hne : e ≠ e') (hg : w.grownBy w1 v'.ownBlock) : w1.ownsRow b e s v n xs := by
  obtain ⟨h1, h2⟩ := h
  refine ⟨h1, ?_⟩
  rcases h2 with h2 | ⟨g, cap, cur, hv, hb, hh, r⟩
  · exact .inl h2
  · refine .inr ⟨g, cap, cur, hv, hb, (hg.block g (Array.getElem?_eq_some_iff.1 hh).1 (fun eq => ?_)).trans hh, r⟩
    rcases h'.2 with ⟨rfl, _⟩ | ⟨g', cap', cur', rfl, _, hh', _⟩
    · simp [Value.ownBlock] at eq
    · have : g = g' := by simpa [Value.ownBlock] using eq
      subst this
      rw [hh] at hh'
      injection hh' with hh'
      injection hh' with _ ht
      exact hne ht
theorem own_setFar {w : World} {b s n : Nat} {e : TypeId} {v : Value} {xs : List Value} (h : w.ownsRow b e s v n xs) (p : Addr) (u : Value) (hne : v.ownBlock ≠ some p.block) : (w.setCell p u).ownsRow b e s v n xs :=
  own_same h (fun k hk => Below.heap_setCell w p u k (fun eq => hne (by rw [hk, eq])))
theorem send_done {S : Nat → Prop} {g : Nat} {most : Int} {ls : List Lt} {wl : List Bool} {w W w4 w6 : World} {R : Option Addr} {cr : Nat} {cells : List Value} {f t : Int} {bs : List UInt8} {A4 : Option Addr} {c4 : Nat} {A6 : Option Addr} {c6 : Nat}
    (h1 : w.heap[g]? = some (netObj most R ls.length cr wl)) (h2 : wl.length = 16) (h3 : S g) (h4 : w.ownsRow 0 33 3 (.slice R ls.length cr) ls.length cells) (h5 : ∀ b, (Value.slice R ls.length cr).ownBlock = some b → S b) (h6 : Recs (ltOwn S) 3 w ls cells)
    (hBW : Below w.heap.size w W) (hb4 : Below W.heap.size W w4) (hown4 : w4.ownsRow W.heap.size 5 1 (.slice A4 bs.length c4) bs.length (u8s bs))
    (hown6 : w6.ownsRow 0 33 3 (.slice A6 (ls.length + 1) c6) (ls.length + 1) (cells ++ [.int .i64 f, .int .i64 t, .slice A4 bs.length c4])) (hg6 : (w4.alloc (.cells #[.int .i64 f, .int .i64 t, .slice A4 bs.length c4] 33)).grownBy w6 (Value.slice R ls.length cr).ownBlock)
    (hat6 : (Value.slice A6 (ls.length + 1) c6).ownBlock = (Value.slice R ls.length cr).ownBlock ∨ (Value.slice A6 (ls.length + 1) c6).ownBlock = some (w4.alloc (.cells #[.int .i64 f, .int .i64 t, .slice A4 bs.length c4] 33)).heap.size)
    (z1 : w6.heap[g]? = some (netObj most R ls.length cr wl)) :
    NetAt (Plus S w) g most (ls ++ [(f, t, bs)]) wl (w6.setCell ⟨g, 1, none⟩ (.slice A6 (ls.length + 1) c6)) ∧ Outside S w (w6.setCell ⟨g, 1, none⟩ (.slice A6 (ls.length + 1) c6)) := by
  have hB4 := below_step hBW hBW.size hb4
  have hz := hB4.size
  have hzW := hBW.size
  have hgl := (Array.getElem?_eq_some_iff.1 h1).1
  have ho4 := own_alloc' (own_keep h4 hB4) (.cells #[.int .i64 f, .int .i64 t, .slice A4 bs.length c4] 33)
  have hlen : (ls ++ [(f, t, bs)]).length = ls.length + 1 := by simp
  have hrow : (w6.setCell ⟨g, 1, none⟩ (.slice A6 (ls.length + 1) c6)).heap[g]? = some (netObj most A6 (ls.length + 1) c6 wl) := by
    simp [World.setCell, Array.getElem?_modify, z1, netObj]
  have hkeep : ∀ {b n : Nat} {v : Value} {xs : List Value}, w4.ownsRow b 5 1 v n xs → (w6.setCell ⟨g, 1, none⟩ (.slice A6 (ls.length + 1) c6)).ownsRow b 5 1 v n xs := fun h => by
    have h7 := own_apart (own_alloc' h (.cells #[.int .i64 f, .int .i64 t, .slice A4 bs.length c4] 33)) ho4 (by decide) hg6
    exact own_setFar h7 _ _ (own_notnet h7 z1)
  refine ⟨⟨A6, c6, cells ++ [.int .i64 f, .int .i64 t, .slice A4 bs.length c4], by rw [hlen]; exact hrow, h2, .inl h3, by rw [hlen]; exact own_setFar hown6 _ _ (own_notnet hown6 z1), ?_, ?_⟩, ?_⟩
  · intro b hb
    rw [hlen] at hb
    rcases hat6 with h | h
    · exact .inl (h5 b (by rw [← h]; exact hb))
    · rw [hb] at h
      have h := Option.some.inj h
      refine .inr ?_
      rw [h]
      simp
      omega
  · refine (h6.imp fun j l cs _ hl => ?_).snoc rfl ⟨A4, c4, rfl, own_lower (hkeep hown4) (Nat.zero_le _), fun b hb => .inr (Nat.le_trans hzW (own_block_ge hown4 b hb).1)⟩
    obtain ⟨A1, c1, e, ho, hs⟩ := hl
    exact ⟨A1, c1, e, hkeep (own_keep ho hB4), fun b hb => .inl (hs b hb)⟩
  · have hba := hB4.alloc hB4.size (.cells #[.int .i64 f, .int .i64 t, .slice A4 bs.length c4] 33)
    refine ⟨hg6.os.trans hba.os, hg6.tape.trans hba.tape, hg6.output.trans hba.output, Nat.le_trans hba.size (by simpa [World.setCell] using hg6.size), fun b hb hs => ?_⟩
    rw [Below.heap_setCell w6 ⟨g, 1, none⟩ _ b (fun e => hs (by rw [e]; exact h3))]
    exact (hg6.block b (Nat.lt_of_lt_of_le hb hba.size) (fun e => hs (h5 b e.symm))).trans (hba.block b hb)
set_option maxHeartbeats 2000000 in
theorem send_any {S : Nat → Prop} {g : Nat} {most : Int} {ls : List Lt} {wl : List Bool} (f t : Int) (A : Option Addr) (bs : List UInt8) (c : Nat) (w : World) (h : NetAt S g most ls wl w) (hm : 1 ≤ most) (hm2 : most ≤ 10000) (hls : (ls.length : Int) ≤ most)
    (hc : bs.length ≤ c) (hl : bs.length ≤ 140737488355328) (hA : Sees w A (u8s bs)) :
    Calls Try.prog 11 #[.pointer (some ⟨g, 0, none⟩), .agg #[.int .i64 f, .int .i64 t, .slice A bs.length c]] w (RetSend S g most ls wl (f, t, bs) w) := by
  obtain ⟨R, cr, cells, h1, h2, h3, h4, h5, h6⟩ := id h
  obtain ⟨k0, k1, _, hfz⟩ := net_cells h1
  have b1 : (most == 0) = false := by simp; omega
  have hal := (Below.refl w.heap.size w).alloc (Nat.le_refl _) (.cells #[.int .i64 f, .int .i64 t, .slice A bs.length c] 33)
  have n0 := (hal.cell (p := ⟨g, 0, none⟩) (Array.getElem?_eq_some_iff.1 h1).1).trans k0
  have hrt : (serverB f && (serverB t && ((f != t) && decide (bs.length ≤ 1048576)))) = rightB (f, t, bs) := rfl
  have HRT := Lib.hid hrt
  have H := Lib.hid h
  clear hrt h
  cases hr : rightB (f, t, bs) with
  | false =>
    have hse : sendE most ls.length (f, t, bs) = 1 := by simp [sendE, hr]
    have HSE := Lib.hid hse
    clear hse
    go_enter Try.func11, Try.ntmps11
    go_wp2_with (first
      | (go_at_call 25; go_loud (refine (none_any g most _ (by exact n0)).mono ?_); rintro e w' ⟨rfl, rfl⟩)
      | (go_at_call 26; go_loud (refine (right_any f t A bs.length c _ hl).mono ?_); rintro e w2 ⟨rfl, hb2⟩; rw [HRT.out, hr])
      | fail)
    go_ret
    have hB := below_step hal (by simp) hb2
    refine ⟨by rw [HSE.out]; rfl, ?_, Outside.of_below hB⟩
    rw [HSE.out, if_neg (by decide)]
    exact (H.out.below hB).mono (fun b hb => .inl hb)
  | true =>
    by_cases hfull : most ≤ (ls.length : Int)
    · have hse : sendE most ls.length (f, t, bs) = 7 := by simp [sendE, hr, hfull]
      have HSE := Lib.hid hse
      clear hse
      go_enter Try.func11, Try.ntmps11
      go_wp2_with (first
        | (go_at_call 25; go_loud (refine (none_any g most _ (by exact n0)).mono ?_); rintro e w' ⟨rfl, rfl⟩)
        | (go_at_call 26; go_loud (refine (right_any f t A bs.length c _ hl).mono ?_); rintro e w2 ⟨rfl, hb2⟩; rw [HRT.out, hr]; have hB := below_step hal (by simp) hb2; have m0 := (hB.cell (p := ⟨g, 0, none⟩) (Array.getElem?_eq_some_iff.1 h1).1).trans k0; have m1 := (hB.cell (p := ⟨g, 1, none⟩) (Array.getElem?_eq_some_iff.1 h1).1).trans k1)
        | fail)
      go_quiet (fail)
      go_wp2
      go_ret
      refine ⟨by rw [HSE.out]; rfl, ?_, Outside.of_below (below_draws hB _)⟩
      rw [HSE.out, if_neg (by decide)]
      exact (H.out.below (below_draws hB _)).mono (fun b hb => .inl hb)
    · have hse : sendE most ls.length (f, t, bs) = 0 := by simp [sendE, hr, hfull]
      have HSE := Lib.hid hse
      clear hse
      go_enter Try.func11, Try.ntmps11
      go_wp2_with (first
        | (go_at_call 25; go_loud (refine (none_any g most _ (by exact n0)).mono ?_); rintro e w' ⟨rfl, rfl⟩)
        | (go_at_call 26; go_loud (refine (right_any f t A bs.length c _ hl).mono ?_); rintro e w2 ⟨rfl, hb2⟩; rw [HRT.out, hr]; have hB := below_step hal (by simp) hb2; have m0 := (hB.cell (p := ⟨g, 0, none⟩) (Array.getElem?_eq_some_iff.1 h1).1).trans k0; have m1 := (hB.cell (p := ⟨g, 1, none⟩) (Array.getElem?_eq_some_iff.1 h1).1).trans k1)
        | fail)
      go_quiet (fail)
      go_wp2
      have hbw := below_draws hB nq
      have x0 : (w.alloc (.cells #[.int .i64 f, .int .i64 t, .slice A bs.length c] 33)).heap[w.heap.size]? = some (.cells #[.int .i64 f, .int .i64 t, .slice A bs.length c] 33 (0, 0)) := heap_alloc_new w _
      have x2 := (hb2.block w.heap.size (by simp)).trans x0
      obtain ⟨W, hW⟩ : ∃ W, w2.drewN nq = W := ⟨_, rfl⟩
      have hBW : Below w.heap.size w W := by rw [← hW]; exact hbw
      have xW : W.heap[w.heap.size]? = some (.cells #[.int .i64 f, .int .i64 t, .slice A bs.length c] 33 (0, 0)) := by rw [← hW]; exact x2
      have hzW : w.heap.size < W.heap.size := (Array.getElem?_eq_some_iff.1 xW).1
      rw [hW]
      have hgW : W.heap[g]? = some (netObj most R ls.length cr wl) := (hBW.block g (Array.getElem?_eq_some_iff.1 h1).1).trans h1
      have hoW := own_keep h4 hBW
      have hAW := hA.below hBW
      have hSb : ∀ W' : World, W'.heap[g]? = some (netObj most R ls.length cr wl) → W'.heap[w.heap.size]? = some (.cells #[.int .i64 f, .int .i64 t, .slice A bs.length c] 33 (0, 0)) → W'.cell? ⟨g, 1, none⟩ = some (.slice R ls.length cr) ∧ W'.cell? ⟨w.heap.size, 0, none⟩ = some (.int .i64 f) ∧ W'.cell? ⟨w.heap.size, 1, none⟩ = some (.int .i64 t) ∧ W'.cell? ⟨w.heap.size, 2, none⟩ = some (.slice A bs.length c) := by
        intro W' y1 y2
        refine ⟨(net_cells y1).2.1, ?_, ?_, ?_⟩
        · rw [cell_of_row W' _ 0 _ _ _ y2]; rfl
        · rw [cell_of_row W' _ 1 _ _ _ y2]; rfl
        · rw [cell_of_row W' _ 2 _ _ _ y2]; rfl
      have hgl := (Array.getElem?_eq_some_iff.1 hgW).1
      have hS : ∀ W', Below W.heap.size W W' → W'.cell? ⟨g, 1, none⟩ = some (.slice R ls.length cr) ∧ W'.cell? ⟨w.heap.size, 0, none⟩ = some (.int .i64 f) ∧ W'.cell? ⟨w.heap.size, 1, none⟩ = some (.int .i64 t) ∧ W'.cell? ⟨w.heap.size, 2, none⟩ = some (.slice A bs.length c) := fun W' hb' => hSb W' ((hb'.block g hgl).trans hgW) ((hb'.block w.heap.size hzW).trans xW)
      have hRb : ∀ k, (Value.slice R ls.length cr).ownBlock = some k → k < w.heap.size := fun k hk => (own_block_ge h4 k hk).2
      clear n0 m0 m1 k0 k1 hal hb2 hB hbw x0 x2 hW
      have kW := hS W (Below.refl _ _)
      go_region_law
        (first
          | (go_simp; go_at_call 27; refine (own_any f t A bs c _ hc hl (by exact hAW)).mono ?_; rintro e w4 ⟨A4, c4, rfl, hown4, hb4'⟩; have hb4 : Below W.heap.size W w4 := ⟨hb4'.os, hb4'.tape, hb4'.output, hb4'.size, hb4'.block⟩; have k4 := (hS w4 hb4).1; have k5 := (hS _ (hb4.alloc hb4.size (.cells #[.int .i64 f, .int .i64 t, .slice A4 bs.length c4] 33))).1)
          | (refine step_append_sees rfl (.tmp 26) (.tmp 29) 57 (by rfl) 0 33 (.agg #[.int .i64 0, .int .i64 0, .slice none 0 0]) 3 40 Try.underlying57 infoLetter rfl (by decide) (.slice R ls.length cr) ls.length cells (by rfl) (by exact own_alloc' (own_keep hoW hb4) _) (some ⟨w4.heap.size, 0, none⟩) 1 1 [.int .i64 f, .int .i64 t, .slice A4 bs.length c4] (by rfl) (by rfl) (by exact sees_new _ _ _) (by simp [Value.oneCell']) (by simp only [maxLen]; omega) (by omega) (Nat.zero_le _) ?_; intro A6 c6 w6 hown6 hg6 hat6; have hba := hb4.alloc hb4.size (.cells #[.int .i64 f, .int .i64 t, .slice A4 bs.length c4] 33); have hza := hba.size; have z1 := (hg6.block g (Nat.lt_of_lt_of_le hgl hza) (fun e => own_notnet hoW hgW (by decide) e.symm)).trans ((hba.block g hgl).trans hgW); have z2 := (hg6.block w.heap.size (Nat.lt_of_lt_of_le hzW hza) (fun e => Nat.lt_irrefl _ (hRb _ e.symm))).trans ((hba.block w.heap.size hzW).trans xW); have hS6 := hSb w6 z1 z2; have hfz6 := (net_cells z1).2.2.2)
          | fail)
      all_goals go_wp2
      all_goals go_ret
      all_goals (have hd := send_done h1 h2 h3 h4 h5 h6 hBW hb4 hown4 hown6 hg6 hat6 z1)
      all_goals (refine ⟨by rw [HSE.out]; rfl, ?_, hd.2⟩; rw [HSE.out, if_pos rfl]; exact hd.1)
end Go.Proofs.Ytfhmdphcgcmaeaa
