/-
  Package net: Lose, Take, Double, Clear.
-/
import Derived.Test.YtfhmdphcgcmaeaaDelete
set_option linter.unusedVariables false
set_option linter.unusedSimpArgs false
namespace Go.Proofs.Ytfhmdphcgcmaeaa
open Go.RowKit

/-- Behind a call that changes a net. -/
def RetOp (S : Nat → Prop) (g : Nat) (most v : Int) (ls : List Lt) (wl : List Bool) (w : World) (e : Ending) (w' : World) : Prop :=
  e = .returned (.int .i64 v) ∧ NetAt (Plus S w) g most ls wl w' ∧ Outside S w w'
theorem own_ne {W : World} {b sz n g : Nat} {e t : TypeId} {v : Value} {xs : List Value} {cs : Array Value} {fr : Nat × Nat} (h : W.ownsRow b e sz v n xs) (hg : W.heap[g]? = some (.cells cs t fr)) (he : e ≠ t) : v.ownBlock ≠ some g := by
  intro eb
  rcases h.2 with ⟨rfl, _⟩ | ⟨g1, cap1, cur1, rfl, _, hh1, _⟩
  · simp [Value.ownBlock] at eb
  · obtain rfl : g1 = g := by simpa [Value.ownBlock] using eb
    rw [hg] at hh1
    injection hh1 with hh1
    injection hh1 with _ ht
    exact he ht.symm
theorem loseK {α : Type} (ls : List α) (k : Nat) : ls.eraseIdx k = ls.take k ++ ls.drop (k + 1) := List.eraseIdx_eq_take_drop_succ ls k
theorem netRow_set {W : World} {g : Nat} {most : Int} {A A' : Option Addr} {n c n' c' : Nat} {wl : List Bool} (h : W.heap[g]? = some (netObj most A n c wl)) :
    (W.setCell ⟨g, 1, none⟩ (.slice A' n' c')).heap[g]? = some (netObj most A' n' c' wl) := by
  simp [World.setCell, Array.getElem?_modify, h, netObj]
set_option maxHeartbeats 1000000 in
theorem lose_any {S : Nat → Prop} {g : Nat} {most : Int} {ls : List Lt} {wl : List Bool} (k : Int) (w : World) (h : NetAt S g most ls wl w) (hm : most ≠ 0) :
    Calls Try.prog 17 #[.pointer (some ⟨g, 0, none⟩), .int .i64 k] w (RetOp S g most (atE k ls.length) (if atE k ls.length = 0 then ls.eraseIdx k.toNat else ls) wl w) := by
  have hA := at_any k _ h hm
  have H := Lib.hid h
  by_cases hk : k < 0 ∨ (ls.length : Int) ≤ k
  · have ha : atE k ls.length = 3 := if_pos hk
    rw [ha] at hA ⊢
    clear hk ha h
    go_enter Try.func17, Try.ntmps17
    go_wp2_with (first
      | (go_at_call 28; refine hA.mono ?_; rintro e w' ⟨rfl, rfl⟩)
      | fail)
    go_ret
    exact ⟨rfl, H.out.mono (fun b hb => .inl hb), Outside.refl _ _⟩
  · obtain ⟨j, rfl⟩ : ∃ j : Nat, (j : Int) = k := ⟨k.toNat, by omega⟩
    have hj : j < ls.length := by omega
    have ha : atE (j : Int) ls.length = 0 := if_neg hk
    rw [ha] at hA ⊢
    obtain ⟨R, cr, cells, h1, h2, h3, h4, h5, h6⟩ := id h
    obtain ⟨hrc, gr, rfl, _, hgr⟩ := own_pos h4 (by omega)
    obtain ⟨k0, k1, _, hfz⟩ := net_cells h1
    have hmx := (sees_own' h4).2.2.1
    obtain ⟨cur, hgc, hcs, hct⟩ : ∃ cur, w.heap[gr]? = some (.cells cur 33 (0, 0)) ∧ cur.size = cr * 3 ∧ cur.toList.take (ls.length * 3) = cells := by
      rcases h4.2 with ⟨hv, _⟩ | ⟨g', cap', cur', hv, _, hg', _, _, hs', ht'⟩
      · cases hv
      · cases hv
        exact ⟨cur', hg', hs', ht'⟩
    have hone : ∀ u ∈ (cur.toList.take (ls.length * 3)), u.oneCell' = true := by
      rw [hct]
      obtain ⟨css, rfl, h62, h63⟩ := h6
      intro u hu
      obtain ⟨cs, hcs', hu'⟩ := List.mem_flatten.1 hu
      obtain ⟨i, hi, rfl⟩ := List.getElem_of_mem hcs'
      obtain ⟨_, A1, c1, e, _⟩ := h63 i _ _ (List.getElem?_eq_getElem (by omega)) (List.getElem?_eq_getElem hi)
      rw [e] at hu'
      simp at hu'
      rcases hu' with rfl | rfl | rfl <;> rfl
    have hD := delete_any gr ls.length cr j cur w hgc hcs hrc hj hmx hone
    have HD := Lib.hid hD
    have hgl := (Array.getElem?_eq_some_iff.1 h1).1
    have hne : g ≠ gr := by
      rintro rfl
      rw [hgc] at h1
      unfold netObj at h1
      injection h1 with h1
      injection h1 with _ ht
      exact absurd ht (by decide)
    unfold maxLen at hmx
    clear h hD hk ha k0
    go_enter Try.func17, Try.ntmps17
    go_wp2_with (first
      | (go_at_call 28; refine hA.mono ?_; rintro e w' ⟨rfl, rfl⟩)
      | (go_at_call 29; refine HD.out.mono ?_; rintro e w3 ⟨rfl, hout, cur3, hg3, hs3, ht3⟩; have y1 := (hout.block g hgl hne).trans h1; have y2 := net_cells y1; have y3 := y2.2.1; have y4 := y2.2.2.2)
      | fail)
    go_ret
    have hSr : S gr := h5 gr rfl
    have hsame : ∀ b, b < w.heap.size → b ≠ gr → b ≠ g → (w3.setCell ⟨g, 1, none⟩ (.slice (some ⟨gr, 0, none⟩) (ls.length - 1) cr)).heap[b]? = w.heap[b]? := fun b hb n1 n2 => (Below.heap_setCell w3 ⟨g, 1, none⟩ _ b n2).trans (hout.block b hb n1)
    have hl : (ls.eraseIdx j).length = ls.length - 1 := by rw [List.length_eraseIdx, if_pos hj]
    have hcells : cur3.toList.take ((ls.length - 1) * 3) = cells.take (j * 3) ++ cells.drop ((j + 1) * 3) := by
      rw [ht3, ← hct, List.take_take, Nat.min_eq_left (by omega)]
    have hrec := (h6.take j).append (h6.drop (j + 1))
    refine ⟨rfl, ⟨some ⟨gr, 0, none⟩, cr, cells.take (j * 3) ++ cells.drop ((j + 1) * 3), ?_, h2, .inl h3, ⟨?_, .inr ⟨gr, cr, cur3, ?_, Nat.zero_le _, ?_, ?_, ?_, hs3, ?_⟩⟩, ?_, ?_⟩, hout.os, hout.tape, hout.output, by simpa [World.setCell] using hout.size, fun b hb hs => hsame b hb (fun e => hs (e ▸ hSr)) (fun e => hs (e ▸ h3))⟩
    · rw [hl]; exact netRow_set y1
    · rw [← hcells, hl]; simp [hs3]; omega
    · rw [hl]
    · rw [Below.heap_setCell w3 ⟨g, 1, none⟩ _ gr (fun e => hne e.symm)]; exact hg3
    · rw [hl]; omega
    · unfold maxLen; exact hmx
    · rw [hl]; exact hcells
    · intro b hb
      obtain rfl : gr = b := by simpa [Value.ownBlock] using hb
      exact .inl hSr
    · rw [loseK]
      refine hrec.imp fun i l cs _ hlt => ?_
      obtain ⟨A1, c1, e, ho, hs⟩ := hlt
      refine ⟨A1, c1, e, own_same ho (fun b hb => hsame b (own_block_ge ho b hb).2 (fun eb => own_ne ho hgc (by decide) (by rw [hb, eb])) (fun eb => own_notnet ho h1 (by decide) (by rw [hb, eb]))), fun b hb => .inl (hs b hb)⟩
end Go.Proofs.Ytfhmdphcgcmaeaa
