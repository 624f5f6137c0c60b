/-
  ProgressCommits: the walk.
-/
import Derived.Test.YtlcnpfiiijehmaaRCommit
import Derived.Test.YtlcnpfiiijehmaaESame
import Derived.Test.YtlcnpfiiijehmaaKnow13
import Derived.Deep.RegionHeld3
set_option linter.unusedVariables false
set_option linter.unusedSimpArgs false
namespace Go.Proofs.Ytlcnpfiiijehmaa
open Go.RowKit

theorem infoInt13 : (Try.prog.info? 3).map (fun i => (i.zero, i.size, i.bytes)) = some (some (.int .i64 0), 1, 8) := by kernel_rfl
abbrev eO : Obj := .cells #[] 3
/-- 'append([]int{}, x...)' at a step of a drawn region. -/
theorem step_app0 {ops : Array Oper} {o : Oper} {a : Act} {K : Act → World → Prop} {Q : Exit → Act → World → Prop} {E : Prop} {w w0 : World} (hgd : o.guard = none) (s x : Operand)
    (ho : o.op = .call { callee := .builtin .append, args := #[s, x], argTypes := #[25, 25] }) (g : Nat) (hs : a.eval s = .slice (some ⟨g, 0, none⟩) 0 0) (hg : w.heap[g]? = some (.cells #[] 3 (0, 0)))
    (A : Option Addr) (m c : Nat) (of : List Int) (hx : a.eval x = .slice A m c) (hl : of.length = m) (hnews : Sees w A (of.map i64v)) (hm : m * 8 ≤ 140737488351232)
    (hb : Below w0.heap.size w0 w) (hg0 : w0.heap.size ≤ g)
    (h : ∀ A' c' w', Sees w' A' (of.map i64v) → m ≤ c' → Below w0.heap.size w0 w' → (∀ b, b < w.heap.size → b ≠ g → w'.heap[b]? = w.heap[b]?) → w.heap.size ≤ w'.heap.size → K (a.put o.dst (.slice A' m c')) w') :
    if Region.wanted o (yielded ops a.tmps) = true then Oper.wp Try.prog o a w K Q else E := by
  have hown : w.ownsRow w0.heap.size 3 1 (.slice (some ⟨g, 0, none⟩) 0 0) 0 [] := ⟨by simp, .inr ⟨g, 0, #[], rfl, hg0, hg, Nat.le_refl _, Nat.zero_le _, by simp, by simp⟩⟩
  refine step_append_sees hgd s x 25 ho w0.heap.size 3 (.int .i64 0) 1 8 Try.underlying25 infoInt13 rfl (by decide) (.slice (some ⟨g, 0, none⟩) 0 0) 0 [] hs hown A m c (of.map i64v) hx (by rw [List.length_map, hl, Nat.mul_one]) hnews (fun u hu => by obtain ⟨i, _, rfl⟩ := List.mem_map.1 hu; rfl) (by simp only [maxLen]; omega) (by omega) hb.size ?_
  intro A' c' w' hown' hgr hat
  rw [Nat.zero_add, List.nil_append] at hown'
  rw [Nat.zero_add]
  refine h A' c' w' (sees_own' hown').2.2.2 (sees_own' hown').2.1 (below_grown_own hb hb.size hown (Nat.le_refl _) hgr) (fun b hb' hne => ?_) hgr.size
  obtain ⟨_, _, _, _, hk⟩ := hgr
  exact hk b hb' (fun h => hne (by have := Option.some.inj h; simpa [Value.ownBlock] using this))
set_option maxRecDepth 16384 in
set_option maxHeartbeats 16000000 in
theorem commits_any (v : Vw) (A : Option Addr) (n c : Nat) (S M : Option Addr) (ns cs mo cm : Nat) (sv of : List Int) (commit term : Int) (w : World) (hn : v.l.length = n) (hn2 : n * 48 ≤ 140737488351232) (h : SeenE w A v.l) (hs : SmallE v.l)
    (hsv : sv.length = ns) (hns : ns * 8 ≤ 140737488351232) (hSv : Sees w S (sv.map i64v)) (hmo : of.length = mo) (hof : mo ≤ cm) (hol : mo * 8 ≤ 140737488351232) (hM : Sees w M (of.map i64v)) :
    Calls Try.prog 3 #[v.val (.slice A n c), .slice S ns cs, .slice M mo cm, .int .i64 commit, .int .i64 term] w (RetBool w true) := by
  obtain ⟨W, hW⟩ : ∃ W, w.alloc (.cells #[.int .i64 v.base, .int .i64 v.term, .slice A n c] 24) = W := ⟨_, rfl⟩
  have hb : Below w.heap.size w W := by rw [← hW]; exact (Below.refl _ _).alloc (Nat.le_refl _) _
  have k0 : W.cell? ⟨w.heap.size, 0, none⟩ = some (.int .i64 v.base) := by rw [← hW]; simp
  have k1 : W.cell? ⟨w.heap.size, 1, none⟩ = some (.int .i64 v.term) := by rw [← hW]; simp
  have k2 : W.cell? ⟨w.heap.size, 2, none⟩ = some (.slice A n c) := by rw [← hW]; simp
  have HW := Lib.hid hW
  have HB := Lib.hid hb
  obtain ⟨gb, hgb⟩ : ∃ gb, w.heap.size = gb := ⟨_, rfl⟩
  rw [hgb] at k0 k1 k2
  have HGB := Lib.hid hgb
  have HN := Lib.hid hn
  have HSVL := Lib.hid hsv
  have HMO := Lib.hid hmo
  have HSV := Lib.hid hSv
  have HM := Lib.hid hM
  have HVW := Lib.hid (view_any v A n c W hn hn2 (h.below hb) hs)
  have HCM := Lib.hid (fun W' (A' : Option Addr) (c' : Nat) (S' M' : Option Addr) (cs' cm' : Nat) (hse : SeenE W' A' v.l) (hc' : mo ≤ cm') (hM' : Sees W' M' (of.map i64v)) => commit_any v A' n c' S' M' ns cs' cm' of commit term W' hn (by omega) hse hs (by omega) (by rw [hmo]; exact hc') (by rw [hmo]; omega) hM')
  have HRC := Lib.hid (fun W' (hb' : Below w.heap.size w W') => rcommit_any v A n c S M ns cs cm of commit term W' hn (by omega) (h.below hb') hs (by omega) (by rw [hmo]; exact hof) (by rw [hmo]; omega) (hM.below hb'))
  have HSAME := Lib.hid (fun W' (A' : Option Addr) (c' : Nat) (hse : SeenE W' A' v.l) (hb' : Below w.heap.size w W') => same12_any v A' A n c' c W' hn (by omega) hse (h.below hb'))
  have HK : Hid (∀ W', Below W.heap.size W W' → W'.cell? ⟨gb, 0, none⟩ = some (.int .i64 v.base) ∧ W'.cell? ⟨gb, 1, none⟩ = some (.int .i64 v.term) ∧ W'.cell? ⟨gb, 2, none⟩ = some (.slice A n c)) := Lib.hid (fun W' hb' => ⟨(hb'.cell (World.block_lt_of_cell? _ _ k0)).trans k0, (hb'.cell (World.block_lt_of_cell? _ _ k1)).trans k1, (hb'.cell (World.block_lt_of_cell? _ _ k2)).trans k2⟩)
  rw [hmo] at HCM HRC
  unfold Vw.val at HVW HCM HRC HSAME ⊢
  clear hW hb h hn hs hgb hmo hM hsv hSv
  go_enter Try.func3, Try.ntmps3
  go_upto_region 1 with fail
  rw [HW.out]
  try rw [HGB.out]
  go_upto_region 2 with (first
    | (go_at_call 8; refine HVW.out.mono ?_; rintro e w2 ⟨A2, n2, c2, rfl, hn2', ho2, hb2⟩; have hnn := hn2'.trans HN.out; clear hn2'; obtain rfl := hnn; unfold Vw.val; have HB2 := Lib.hid hb2; have HS2 := Lib.hid ho2.see.1; clear ho2 hb2)
    | fail)
  obtain ⟨w5, hw5⟩ : ∃ w5, w2.alloc (.cells #[.int .i64 v.base, .int .i64 v.term, .slice A2 n2 c2] 26) = w5 := ⟨_, rfl⟩
  have hb5 : Below w2.heap.size w2 w5 := by rw [← hw5]; exact (Below.refl _ _).alloc (Nat.le_refl _) _
  have hrow5 : w5.heap[w2.heap.size]? = some (.cells #[.int .i64 v.base, .int .i64 v.term, .slice A2 n2 c2] 26 (0, 0)) := by rw [← hw5]; exact heap_alloc_new _ _
  rw [hw5]
  obtain ⟨gx, hgx⟩ : ∃ gx, w2.heap.size = gx := ⟨_, rfl⟩
  rw [hgx] at hrow5
  try rw [hgx]
  have HBF := Lib.hid (below_step HB.out HB.out.size (below_step HB2.out HB2.out.size hb5))
  have HSE := Lib.hid (HS2.out.below hb5)
  have q0 := cell_of_row w5 gx 0 _ _ _ hrow5
  have q1 := cell_of_row w5 gx 1 _ _ _ hrow5
  have q2 := cell_of_row w5 gx 2 _ _ _ hrow5
  simp at q0 q1 q2
  obtain ⟨p0, p1, p2⟩ := HK.out w5 (below_step HB2.out HB2.out.size hb5)
  have HK6 : Hid (∀ W', Below w5.heap.size w5 W' → W'.cell? ⟨gb, 0, none⟩ = some (.int .i64 v.base) ∧ W'.cell? ⟨gb, 1, none⟩ = some (.int .i64 v.term) ∧ W'.cell? ⟨gb, 2, none⟩ = some (.slice A n2 c) ∧ W'.cell? ⟨gx, 0, none⟩ = some (.int .i64 v.base) ∧ W'.cell? ⟨gx, 1, none⟩ = some (.int .i64 v.term) ∧ W'.cell? ⟨gx, 2, none⟩ = some (.slice A2 n2 c2)) := Lib.hid (fun W' hb' => ⟨(hb'.cell (World.block_lt_of_cell? _ _ p0)).trans p0, (hb'.cell (World.block_lt_of_cell? _ _ p1)).trans p1, (hb'.cell (World.block_lt_of_cell? _ _ p2)).trans p2, (hb'.cell (World.block_lt_of_cell? _ _ q0)).trans q0, (hb'.cell (World.block_lt_of_cell? _ _ q1)).trans q1, (hb'.cell (World.block_lt_of_cell? _ _ q2)).trans q2⟩)
  clear hw5 hb5 hrow5 hgx q0 q1 q2 p0 p1 p2 k0 k1 k2 HK
  have b0 : Below w5.heap.size w5 w5.drew := (Below.refl _ _).drew
  have ba1 : Below w5.heap.size w5 (w5.alloc eO).drew := ((Below.refl _ _).alloc (Nat.le_refl _) _).drew
  have ba2 : Below w5.heap.size w5 ((w5.alloc eO).alloc eO).drew := (((Below.refl _ _).alloc (Nat.le_refl _) _).alloc (by simp) _).drew
  have HX1 : Hid ((w5.alloc eO).drew.heap[w5.heap.size]? = some (.cells #[] 3 (0, 0))) := Lib.hid (heap_alloc_new w5 _)
  have HX2 : Hid (((w5.alloc eO).alloc eO).drew.heap[w5.heap.size]? = some (.cells #[] 3 (0, 0))) := Lib.hid ((Below.heap_alloc _ _ _ (by simp)).trans (heap_alloc_new w5 _))
  have HX3 : Hid (((w5.alloc eO).alloc eO).drew.heap[w5.heap.size + 1]? = some (.cells #[] 3 (0, 0))) := Lib.hid (by have := heap_alloc_new (w5.alloc eO) eO; rw [World.size_alloc] at this; exact this)
  have HZ2 : Hid (w5.heap.size + 1 < ((w5.alloc eO).alloc eO).drew.heap.size ∧ w5.heap.size < ((w5.alloc eO).alloc eO).drew.heap.size) := Lib.hid (by show w5.heap.size + 1 < ((w5.alloc eO).alloc eO).heap.size ∧ w5.heap.size < ((w5.alloc eO).alloc eO).heap.size; simp; omega)
  go_region_held3 (fun W' => W'.cell? ⟨gb, 0, none⟩ = some (.int .i64 v.base) ∧ W'.cell? ⟨gb, 1, none⟩ = some (.int .i64 v.term) ∧ W'.cell? ⟨gb, 2, none⟩ = some (.slice A n2 c) ∧ W'.cell? ⟨gx, 0, none⟩ = some (.int .i64 v.base) ∧ W'.cell? ⟨gx, 1, none⟩ = some (.int .i64 v.term) ∧ W'.cell? ⟨gx, 2, none⟩ = some (.slice A2 n2 c2))
    (first
      | (refine HK6.out _ ?_; assumption)
      | fail)
    (first
      | ((refine step_app0 (w0 := w5) rfl (.tmp 15) (.tmp 16) (by rfl) w5.heap.size (by rfl) HX1.out S ns cs sv (by rfl) HSVL.out (HSV.out.below (below_step HBF.out HBF.out.size ba1)) hns ba1 (Nat.le_refl _) ?_); intro A6 c6 w6 hs6 hc6 b6 hk6 hz6; have O1 := Lib.hid hz6; have b6a := b6.alloc b6.size eO; have HY6 : Hid ((w6.alloc eO).heap[w6.heap.size]? = some (.cells #[] 3 (0, 0))) := Lib.hid (heap_alloc_new w6 _); clear hs6 hc6 hk6 hz6)
      | (have hx := O1; refine step_app0 (w0 := w5) rfl (.tmp 18) (.tmp 19) (by rfl) w6.heap.size (by rfl) HY6.out M mo cm of (by rfl) HMO.out (HM.out.below (below_step HBF.out HBF.out.size b6a)) hol b6a b6.size ?_; intro A7 c7 w7 hs7 hc7 b7 hk7 hz7; have HS7 := Lib.hid hs7; have HC7 := Lib.hid hc7; clear hs7 hc7 hk7 hz7)
      | (refine step_app0 (w0 := w5) rfl (.tmp 15) (.tmp 16) (by rfl) w5.heap.size (by rfl) HX2.out S ns cs sv (by rfl) HSVL.out (HSV.out.below (below_step HBF.out HBF.out.size ba2)) hns ba2 (Nat.le_refl _) ?_; intro A6 c6 w6 hs6 hc6 b6 hk6 hz6; have O2 : Hid (w6.heap[w5.heap.size + 1]? = some (.cells #[] 3 (0, 0))) := Lib.hid ((hk6 _ HZ2.out.1 (Nat.succ_ne_self _)).trans HX3.out); clear hs6 hc6 hk6 hz6)
      | (have hx := O2; refine step_app0 (w0 := w5) rfl (.tmp 18) (.tmp 19) (by rfl) (w5.heap.size + 1) (by rfl) O2.out M mo cm of (by rfl) HMO.out (HM.out.below (below_step HBF.out HBF.out.size b6)) hol b6 (Nat.le_succ _) ?_; intro A7 c7 w7 hs7 hc7 b7 hk7 hz7; have HS7 := Lib.hid hs7; have HC7 := Lib.hid hc7; clear hs7 hc7 hk7 hz7)
      | (refine step_app0 (w0 := w5) rfl (.tmp 15) (.tmp 16) (by rfl) (w5.heap.size + 1) (by rfl) HX3.out S ns cs sv (by rfl) HSVL.out (HSV.out.below (below_step HBF.out HBF.out.size ba2)) hns ba2 (Nat.le_succ _) ?_; intro A6 c6 w6 hs6 hc6 b6 hk6 hz6; have O3 : Hid (w6.heap[w5.heap.size]? = some (.cells #[] 3 (0, 0))) := Lib.hid ((hk6 _ HZ2.out.2 (Nat.succ_ne_self _).symm).trans HX2.out); clear hs6 hc6 hk6 hz6)
      | (have hx := O3; refine step_app0 (w0 := w5) rfl (.tmp 18) (.tmp 19) (by rfl) w5.heap.size (by rfl) O3.out M mo cm of (by rfl) HMO.out (HM.out.below (below_step HBF.out HBF.out.size b6)) hol b6 (Nat.le_refl _) ?_; intro A7 c7 w7 hs7 hc7 b7 hk7 hz7; have HS7 := Lib.hid hs7; have HC7 := Lib.hid hc7; clear hs7 hc7 hk7 hz7)
      | (go_simp; go_at_call 9; refine (HCM.out w7 A2 c2 A6 A7 c6 c7 (HSE.out.below b7) HC7.out HS7.out).mono ?_; rintro e w8 ⟨r, rfl, hr, hb8⟩; have b8 := below_step b7 b7.size hb8; have HR := Lib.hid hr; clear hr hb8)
      | (go_simp; go_at_call 10; refine (HRC.out w8 (below_step HBF.out HBF.out.size b8)).mono ?_; rintro e w9 ⟨r', rfl, hr', hb9⟩; obtain rfl := HR.out.one hr'; have b9 := below_step b8 b8.size hb9; clear hr' hb9)
      | (go_simp; go_at_call 11; refine (HSAME.out w9 A2 c2 (HSE.out.below b9) (below_step HBF.out HBF.out.size b9)).mono ?_; rintro e w10 ⟨rfl, hb10⟩; have b10 := below_step b9 b9.size hb10; clear hb10)
      | (go_simp; go_at_call 12; refine (knows_any w10).mono ?_; rintro e w11 ⟨rfl, hb11⟩; have b11 := below_step b10 b10.size hb11; clear hb11)
      | fail)
  all_goals (go_wp2_with fail
             go_ret
             exact ⟨rfl, below_step HBF.out HBF.out.size b11⟩)
end Go.Proofs.Ytlcnpfiiijehmaa
