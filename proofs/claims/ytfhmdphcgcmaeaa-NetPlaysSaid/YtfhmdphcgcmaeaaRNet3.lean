/-
  The reference's net: Wall, drop.
-/
import Derived.Test.YtfhmdphcgcmaeaaRNet2
import Derived.RegionTactic
set_option linter.unusedVariables false
set_option linter.unusedSimpArgs false
namespace Go.Proofs.Ytfhmdphcgcmaeaa
open Go.RowKit

theorem infoInt : (Try.prog.info? 3).map (fun i => (i.zero, i.size, i.bytes)) = some (some (.int .i64 0), 1, 8) := by kernel_rfl
theorem ints_one (is : List Int) : ∀ u ∈ is.map intV, u.oneCell' = true := by
  intro u hu
  obtain ⟨b, _, rfl⟩ := List.mem_map.1 hu
  rfl
section
variable {S : Nat → Prop} {g : Nat} {most : Int} {ls : List Lt} {ids : List Int}
theorem refwall_any (A : Option Addr) (c : Nat) (js : List Int) (w : World) (h : RefAt S g most ls ids w) (hc : js.length ≤ c) (hlen : js.length * 8 ≤ 140737488355328) (hA : Sees w A (js.map intV)) :
    Calls Try.prog 35 #[.pointer (some ⟨g, 0, none⟩), .slice A js.length c] w (RetR S g most (.int .i64 (wallE js)) ls (if wallE js = 0 then js else ids) w) := by
  obtain ⟨T, hT⟩ : ∃ T, (if wallE js = 0 then js else ids) = T := ⟨_, rfl⟩
  rw [hT]
  have HT := Lib.hid hT
  have H := Lib.hid h
  have HA := Lib.hid hA
  clear hT h hA
  go_enter Try.func35, Try.ntmps35
  go_wp2
  go_loop [5] (fun s5 => ∃ k : Nat, s5 = .int .i64 (k : Int) ∧ k ≤ js.length ∧ (js.take k).all serverB = true) (fun s5 => js.length - (intOf s5).toNat)
  case atStart => exact ⟨0, rfl, Nat.zero_le _, rfl⟩
  case round =>
    obtain ⟨k, rfl, hk, hall⟩ := hrel
    have HALL := Lib.hid hall
    clear hall
    by_cases hlt : k < js.length
    · obtain ⟨ad, rfl, hcell⟩ := HA.out k (intV js[k]) (by rw [List.getElem?_map, List.getElem?_eq_getElem hlt]; rfl)
      have hki : (k : Int) < (js.length : Int) := by omega
      have htk : js.take (k + 1) = js.take k ++ [js[k]] := by rw [List.take_succ_eq_append_getElem hlt]
      have HTK := Lib.hid htk
      unfold intV at hcell
      clear htk
      cases hs : serverB js[k] with
      | true =>
        go_wp2_with (first
          | (go_at_call 43; refine (id_any _ _).mono ?_; rintro e w' ⟨rfl, rfl⟩; rw [hs])
          | fail)
        go_round
        case rel => exact ⟨k + 1, by go_num, by omega, by rw [HTK.out, List.all_append, HALL.out]; simp [hs]⟩
        case measure => simp [intOf]; omega
      | false =>
        go_wp2_with (first
          | (go_at_call 43; refine (id_any _ _).mono ?_; rintro e w' ⟨rfl, rfl⟩; rw [hs])
          | fail)
        go_ret
        have he : wallE js = 1 := by
          unfold wallE
          rw [if_neg]
          intro ha
          rw [List.all_eq_true] at ha
          rw [ha _ (List.getElem_mem hlt)] at hs
          cases hs
        refine ⟨by rw [he]; rfl, ?_, Outside.refl _ _⟩
        rw [← HT.out, he, if_neg (by decide)]
        exact H.out.mono (fun b _ hb => .inl hb)
    · obtain rfl : k = js.length := by omega
      have hki : ¬ ((js.length : Int) < (js.length : Int)) := by omega
      have he : wallE js = 0 := by
        unfold wallE
        rw [if_pos]
        have := HALL.out
        rwa [List.take_length] at this
      have HE := Lib.hid he
      obtain ⟨A0, c0, cells, B, d, hr⟩ := H.out
      have hgl := (Array.getElem?_eq_some_iff.1 hr.row).1
      have HR := Lib.hid hr
      have hal := (Below.refl w.heap.size w).alloc (Nat.le_refl _) (.cells #[] 3)
      clear he hr
      go_wp2_with (first
        | (at_builtin; refine wpList_append_sees rfl (.tmp 19) (.tmp 20) 43 rfl w.heap.size 3 (.int .i64 0) 1 8 Try.underlying43 infoInt rfl (by decide) (.slice (some ⟨w.heap.size, 0, none⟩) 0 0) 0 [] rfl (own_made0 w 3 1) A js.length c (js.map intV) rfl (by simp) (HA.out.below hal) (ints_one _) (by simp only [maxLen]; omega) (by omega) (by simp) ?_; intro A3 c3 w3 hown3 hg3 hat3; have hb3 : Below w.heap.size w w3 := below_grown_own hal (by simp) (own_made0 w 3 1) (Nat.le_refl _) hg3; have hr3 := (hb3.block g hgl).trans HR.out.row; have k2 := (ref_cells hr3).2.2.1; have kf := (ref_cells hr3).2.2.2; have HO3 := Lib.hid hown3; clear hown3 hg3 hat3)
        | fail)
      go_ret
      have hr := HR.out
      have ho3 : w3.ownsRow w.heap.size 3 1 (.slice A3 js.length c3) js.length (js.map intV) := by simpa using HO3.out
      have hsame : ∀ b, b < w.heap.size → b ≠ g → (w3.setCell ⟨g, 2, none⟩ (.slice A3 js.length c3)).heap[b]? = w.heap[b]? := fun b hb hne => (Below.heap_setCell w3 _ _ b hne).trans (hb3.block b hb)
      have hne : ∀ {b s n : Nat} {e : TypeId} {v : Value} {xs : List Value}, w.ownsRow b e s v n xs → e ≠ 67 → ∀ k, v.ownBlock = some k → k < w.heap.size ∧ k ≠ g := fun ho hte k hk => ⟨(own_block_ge ho k hk).2, fun e => own_ne ho hr.row hte (by rw [hk, e])⟩
      have hrow : (w3.setCell ⟨g, 2, none⟩ (.slice A3 js.length c3)).heap[g]? = some (refObj most A0 ls.length c0 A3 js.length c3) := refRow_ids hr3
      refine ⟨by rw [HE.out]; simp, ?_, hb3.os, hb3.tape, hb3.output, by simpa [World.setCell] using hb3.size, fun b hb hs => hsame b hb (fun e => hs (by rw [e]; exact hr.own))⟩
      rw [← HT.out, HE.out, if_pos rfl]
      refine ⟨A0, c0, cells, A3, c3, hrow, .inl hr.own, own_same hr.lrow (fun b hb => hsame b (hne hr.lrow (by decide) b hb).1 (hne hr.lrow (by decide) b hb).2), fun b hb => .inl (hr.lin b hb), hr.recs.imp fun j l cs _ hl => ?_, own_lower (own_same ho3 (fun b hb => Below.heap_setCell w3 _ _ b (fun e => by have := (own_block_ge ho3 b hb).1; simp at e; omega))) (Nat.zero_le _), fun b hb => .inr (own_block_ge ho3 b hb).1⟩
      obtain ⟨A1, c1, e, ho, hs⟩ := hl
      exact ⟨A1, c1, e, own_same ho (fun b hb => hsame b (hne ho (by decide) b hb).1 (hne ho (by decide) b hb).2), fun b hb => .inl (hs b hb)⟩
/-- The letters' row set anew. -/
theorem ref_setrow {A B A' : Option Addr} {c d c' : Nat} {cells cells' : List Value} {ls' : List Lt} {w w4 : World} (hr : RefAtC S g most ls ids w A c cells B d) (hb : Later w w4) {k n : Nat} (hn : n = ls'.length)
    (ho : w4.ownsRow k 35 3 (.slice A' n c') n cells') (hk : k = w.heap.size) (hrec : Recs (ltOwn (Plus S w)) 3 w4 ls' cells') :
    RefAt (Plus S w) g most ls' ids (w4.setCell ⟨g, 1, none⟩ (.slice A' n c')) ∧ Outside (fun b => b = g) w (w4.setCell ⟨g, 1, none⟩ (.slice A' n c')) := by
  subst hn hk
  have hgl := (Array.getElem?_eq_some_iff.1 hr.row).1
  have hr4 := (hb.block g hgl).trans hr.row
  have hsame4 : ∀ b, b ≠ g → (w4.setCell ⟨g, 1, none⟩ (.slice A' ls'.length c')).heap[b]? = w4.heap[b]? := fun b hne => Below.heap_setCell w4 _ _ b hne
  have hsame : ∀ b, b < w.heap.size → b ≠ g → (w4.setCell ⟨g, 1, none⟩ (.slice A' ls'.length c')).heap[b]? = w.heap[b]? := fun b hlt hne => (hsame4 b hne).trans (hb.block b hlt)
  refine ⟨⟨A', c', cells', B, d, refRow_set hr4, .inl hr.own, own_lower (own_same ho (fun b hb' => hsame4 b (fun e => by have := (own_block_ge ho b hb').1; omega))) (Nat.zero_le _), fun b hb' => .inr (own_block_ge ho b hb').1, hrec.imp fun j l cs _ hl => ?_, own_same hr.irow (fun b hb' => hsame b (own_block_ge hr.irow b hb').2 (fun e => own_ne hr.irow hr.row (by decide) (by rw [hb', e]))), fun b hb' => .inl (hr.iin b hb')⟩, hb.os, hb.tape, hb.output, by simpa [World.setCell] using hb.size, fun b hlt hs => hsame b hlt hs⟩
  obtain ⟨A1, c1, e, ho1, hs1⟩ := hl
  exact ⟨A1, c1, e, own_same ho1 (fun b hb' => hsame4 b (fun e1 => own_ne ho1 hr4 (by decide) (by rw [hb', e1]))), hs1⟩
theorem recs_later {S : Nat → Prop} {w w4 : World} {ls : List Lt} {cells : List Value} (h : Recs (ltOwn S) 3 w ls cells) (hb : Later w w4) : Recs (ltOwn (Plus S w)) 3 w4 ls cells := by
  refine h.imp fun j l cs _ hl => ?_
  obtain ⟨A1, c1, e, ho, hs⟩ := hl
  exact ⟨A1, c1, e, own_same ho (fun b hb' => hb.block b (own_block_ge ho b hb').2), fun b hb' => .inl (hs b hb')⟩
def RetDrop (S : Nat → Prop) (g : Nat) (most : Int) (ls : List Lt) (ids : List Int) (w : World) (e : Ending) (w' : World) : Prop := e = .returned (.tuple #[]) ∧ RefAt (Plus S w) g most ls ids w' ∧ Outside (fun b => b = g) w w'
set_option maxHeartbeats 2000000 in
theorem drop_any (k : Nat) (w : World) (h : RefAt S g most ls ids w) (hk : k < ls.length) (hlen : ls.length ≤ 10000) :
    Calls Try.prog 42 #[.pointer (some ⟨g, 0, none⟩), .int .i64 (k : Int)] w (RetDrop S g most (ls.eraseIdx k) ids w) := by
  obtain ⟨A, c, cells, B, d, hr⟩ := h
  have h4 := hr.lrow
  obtain ⟨hrc, gr, rfl, _, hgr⟩ := own_pos h4 (by omega)
  obtain ⟨_, _, hcm, hsee⟩ := sees_own' h4
  unfold maxLen at hcm
  have hgl := (Array.getElem?_eq_some_iff.1 hr.row).1
  have hcl : cells.length = ls.length * 3 := h4.1
  obtain ⟨X, hX, eX⟩ := slice_from (P := Try.prog) 22 3 Try.underlying22 (by kernel_rfl) ⟨gr, 0, none⟩ ls.length c (k + 1) ((k : Int) + 1) (by omega) (by omega)
  have hone : ∀ u ∈ cells, u.oneCell' = true := by
    obtain ⟨css, rfl, h62, h63⟩ := hr.recs
    intro u hu
    obtain ⟨cs, hcs', hu'⟩ := List.mem_flatten.1 hu
    obtain ⟨i, hi, rfl⟩ := List.getElem_of_mem hcs'
    obtain ⟨_, A1, c1, e, _⟩ := h63 i _ _ (List.getElem?_eq_getElem (by omega)) (List.getElem?_eq_getElem hi)
    rw [e] at hu'
    simp at hu'
    rcases hu' with rfl | rfl | rfl <;> rfl
  have hseeX : Sees w (some X) (cells.drop ((k + 1) * 3)) := by
    intro j v hj
    have hjl := (List.getElem?_eq_some_iff.1 hj).1
    rw [List.length_drop, hcl] at hjl
    rw [eX, if_neg (by omega)]
    exact hsee.drop ((k + 1) * 3) j v hj
  have hcell : ∀ W', Later w W' → W'.cell? ⟨g, 1, none⟩ = some (.slice (some ⟨gr, 0, none⟩) ls.length c) := fun W' hb => (ref_cells ((hb.block g hgl).trans hr.row)).2.1
  have HR := Lib.hid hr
  have HS1 := Lib.hid (hsee.take (k * 3))
  have HSX := Lib.hid hseeX
  have HCL := Lib.hid hcl
  have HC := Lib.hid hcell
  have hk1 := hcell w.drew (Below.refl _ _).drew
  have hal : Later w (w.alloc (.cells #[] 35)).drew := ((Below.refl w.heap.size w).alloc (Nat.le_refl _) _).drew
  have hk2 := hcell _ hal
  have hkc : k ≤ c := by omega
  have ht1 : (cells.take (k * 3)).length = k * 3 := by rw [List.length_take, hcl]; omega
  have ht2 : (cells.drop ((k + 1) * 3)).length = (ls.length - (k + 1)) * 3 := by rw [List.length_drop, hcl, Nat.sub_mul]
  have HT1 := Lib.hid ht1
  have HT2 := Lib.hid ht2
  clear hr h4 hcl eX hseeX hsee hcell ht1 ht2
  have hwr : IntKind.i64.wrap ((k : Int) + 1) = (k : Int) + 1 := IntWalk.i64_in _ (by omega)
  have hp0 : (0 : Int) ≤ (k : Int) + 1 := by omega
  have hp1 : ((k : Int) + 1).toNat = k + 1 := by omega
  go_enter Try.func42, Try.ntmps42
  go_wp2
  go_region_law (first
    | (refine step_append_sees rfl (.tmp 5) (.tmp 11) 22 (by rfl) w.heap.size 35 (.agg #[.int .i64 0, .int .i64 0, .slice none 0 0]) 3 40 Try.underlying22 infoRefLetter rfl (by decide) (.slice (some ⟨w.heap.size, 0, none⟩) 0 0) 0 [] (by rfl) (by exact own_made0 w _ 3) (some ⟨gr, 0, none⟩) k c (cells.take (k * 3)) (by rfl) HT1.out (by exact HS1.out.below hal) (fun u hu => hone u (List.mem_of_mem_take hu)) (by simp only [maxLen]; omega) (by omega) (by simp) ?_; intro A3 c3 w3 hown3 hg3 hat3; have hb3 : Later w w3 := below_grown_own hal (by simp) (own_made0 w 35 3) (Nat.le_refl _) hg3; have hk3 := HC.out w3 hb3; have hown3' : w3.ownsRow w.heap.size 35 3 (.slice A3 k c3) k (cells.take (k * 3)) := (by simpa using hown3); have HO3 := Lib.hid hown3'; clear hg3 hat3 hown3 hown3')
    | (refine step_append_sees rfl (.tmp 12) (.tmp 19) 22 (by rfl) w.heap.size 35 (.agg #[.int .i64 0, .int .i64 0, .slice none 0 0]) 3 40 Try.underlying22 infoRefLetter rfl (by decide) (.slice A3 k c3) k (cells.take (k * 3)) (by rfl) (by exact HO3.out) (some X) (ls.length - (k + 1)) (c - (k + 1)) (cells.drop ((k + 1) * 3)) (by rfl) HT2.out (by exact HSX.out.below hb3) (fun u hu => hone u (List.mem_of_mem_drop hu)) (by simp only [maxLen]; omega) (by omega) (by exact hb3.size) ?_; intro A4 c4 w4 hown4 hg4 hat4; have hb4 : Later w w4 := below_grown_own hb3 hb3.size HO3.out (Nat.le_refl _) hg4; have hr4 := (hb4.block g hgl).trans HR.out.row; have hk4 := (ref_cells hr4).2.1; have hk5 := (ref_cells hr4).2.2.2; have HO4 := Lib.hid hown4; clear hg4 hat4)
    | fail)
  all_goals (go_end0; obtain ⟨h1, h2⟩ := ref_setrow HR.out hb4 (ls' := ls.eraseIdx k) (by rw [List.length_eraseIdx, if_pos hk]; omega) HO4.out rfl (by rw [List.eraseIdx_eq_take_drop_succ]; exact recs_later ((HR.out.recs.take k).append (HR.out.recs.drop (k + 1))) hb4); exact ⟨rfl, h1, h2⟩)
end
end Go.Proofs.Ytfhmdphcgcmaeaa
