/-
  Package net: Next.
-/
import Derived.Test.YtfhmdphcgcmaeaaNet5
set_option linter.unusedVariables false
set_option linter.unusedSimpArgs false
namespace Go.Proofs.Ytfhmdphcgcmaeaa
open Go.RowKit

def openL (wl : List Bool) (l : Lt) : Bool := openB wl l.1 l.2.1 l.2.2.length
/-- The first one from the kth on that passes. -/
def nextN (wl : List Bool) (ls : List Lt) (k : Nat) : Int := match (ls.drop k).findIdx? (openL wl) with | some i => ((k + i : Nat) : Int) | none => -1
theorem nextN_end {wl : List Bool} {ls : List Lt} {k : Nat} (h : ls.length ≤ k) : nextN wl ls k = -1 := by
  unfold nextN
  rw [List.drop_of_length_le h]
  rfl
theorem nextN_here {wl : List Bool} {ls : List Lt} {k : Nat} (h : k < ls.length) (ho : openL wl ls[k] = true) : nextN wl ls k = (k : Int) := by
  unfold nextN
  rw [List.drop_eq_getElem_cons h, List.findIdx?_cons, ho]
  rfl
theorem nextN_on {wl : List Bool} {ls : List Lt} {k : Nat} (h : k < ls.length) (ho : openL wl ls[k] = false) : nextN wl ls k = nextN wl ls (k + 1) := by
  unfold nextN
  rw [List.drop_eq_getElem_cons h, List.findIdx?_cons, ho]
  cases h2 : (ls.drop (k + 1)).findIdx? (openL wl) with
  | none => simp
  | some i => simp; omega
/-- The cells of the kth letter. -/
theorem letter_cells {S : Nat → Prop} {g : Nat} {most : Int} {ls : List Lt} {wl : List Bool} {W : World} (h : NetAt S g most ls wl W) {k : Nat} (hk : k < ls.length) :
    ∃ gr c A1 c1, W.cell? ⟨g, 1, none⟩ = some (.slice (some ⟨gr, 0, none⟩) ls.length c) ∧ ls.length ≤ c ∧ c ≤ maxLen ∧ gr < W.heap.size ∧ g < W.heap.size ∧
      W.cell? ⟨gr, k * 3, none⟩ = some (.int .i64 ls[k].1) ∧ W.cell? ⟨gr, k * 3 + 1, none⟩ = some (.int .i64 ls[k].2.1) ∧ W.cell? ⟨gr, k * 3 + 2, none⟩ = some (.slice A1 ls[k].2.2.length c1) := by
  obtain ⟨R, cr, cells, h1, h2, h3, h4, h5, h6⟩ := id h
  obtain ⟨cs, hcl, ⟨A1, c1, rfl, ho1, hs1⟩, hcs⟩ := h6.get (List.getElem?_eq_getElem hk)
  obtain ⟨hrc, gr, rfl, _, hgr⟩ := own_pos h4 (by omega)
  obtain ⟨_, _, hcm, hsee⟩ := sees_own' h4
  refine ⟨gr, cr, A1, c1, (net_cells h1).2.1, hrc, hcm, hgr, (Array.getElem?_eq_some_iff.1 h1).1, ?_, ?_, ?_⟩
  · obtain ⟨ad, e, hc⟩ := hsee (k * 3) _ (hcs 0 _ rfl); cases e; rw [add_base] at hc; exact hc
  · obtain ⟨ad, e, hc⟩ := hsee (k * 3 + 1) _ (hcs 1 _ rfl); cases e; rw [add_base] at hc; exact hc
  · obtain ⟨ad, e, hc⟩ := hsee (k * 3 + 2) _ (hcs 2 _ rfl); cases e; rw [add_base] at hc; exact hc
set_option maxHeartbeats 1000000 in
theorem next_any {S : Nat → Prop} {g : Nat} {most : Int} {ls : List Lt} {wl : List Bool} (fr : Int) (w : World) (h : NetAt S g most ls wl w) (hm : most ≠ 0) (hb : ∀ l ∈ ls, l.2.2.length ≤ 1048576) (hlen : ls.length ≤ 10000) :
    Calls Try.prog 20 #[.pointer (some ⟨g, 0, none⟩), .int .i64 fr] w (RetVal w (.int .i64 (nextN wl ls fr.toNat))) := by
  obtain ⟨T, hT⟩ : ∃ T, nextN wl ls fr.toNat = T := ⟨_, rfl⟩
  rw [hT]
  have H := Lib.hid h
  have HT := Lib.hid hT
  have hg0 := (net_cells h.choose_spec.choose_spec.choose_spec.1).1
  have b1 : (most == 0) = false := by simp [hm]
  clear h hT
  go_enter Try.func20, Try.ntmps20
  go_wp2_with (first
    | (go_at_call 25; refine (none_any g most _ hg0).mono ?_; rintro e w' ⟨rfl, rfl⟩)
    | fail)
  all_goals
    go_loopw [5] (fun i wr => ∃ k : Nat, i = .int .i64 (k : Int) ∧ nextN wl ls k = T ∧ Below w.heap.size w wr) (fun i _ => ls.length - (intOf i).toNat)
    case atStart => exact ⟨fr.toNat, by congr 1; omega, HT.out, Below.refl _ _⟩
    case round =>
      obtain ⟨k, rfl, hk, hbw⟩ := hrel
      have HK := Lib.hid hk
      have hN := H.out.below hbw
      by_cases hlt : k < ls.length
      · obtain ⟨gr, c, A1, c1, q1, hc, hcm, hgr, hgl, r0, r1, r2⟩ := letter_cells hN hlt
        have hbl := hb _ (List.getElem_mem hlt)
        have hO := open_any ls[k].1 ls[k].2.1 A1 ls[k].2.2.length c1 _ hN hm (by omega)
        have HO := Lib.hid hO
        unfold maxLen at hcm
        clear hk hO hN
        cases ho : openL wl ls[k] with
        | true =>
          have ho' : openB wl ls[k].1 ls[k].2.1 ls[k].2.2.length = true := ho
          go_wp2_with (first
            | (go_at_call 21; refine HO.out.mono ?_; rintro e w' ⟨rfl, hb'⟩; rw [ho'])
            | fail)
          go_ret
          exact ⟨by rw [← HK.out, nextN_here hlt ho]; rfl, below_step hbw hbw.size hb'⟩
        | false =>
          have ho' : openB wl ls[k].1 ls[k].2.1 ls[k].2.2.length = false := ho
          go_wp2_with (first
            | (go_at_call 21; refine HO.out.mono ?_; rintro e w' ⟨rfl, hb'⟩; rw [ho'])
            | fail)
          go_roundw
          case rel => exact ⟨k + 1, by go_num, by rw [← HK.out, nextN_on hlt ho], below_step hbw hbw.size hb'⟩
          case measure => simp [intOf]; omega
      · have hq := (net_cells hN.choose_spec.choose_spec.choose_spec.1).2.1
        have hge : ¬ ((k : Int) < (ls.length : Int)) := by omega
        clear hk
        go_wp2
        go_ret
        exact ⟨by rw [← HK.out, nextN_end (by omega)]; rfl, hbw⟩
end Go.Proofs.Ytfhmdphcgcmaeaa
