/-
  The reference's Order: the walk.
-/
import Derived.Test.YtbnbeailbhnbdaaAhead
set_option linter.unusedVariables false
set_option linter.unusedSimpArgs false
namespace Go.Proofs.Ytbnbeailbhnbdaa
open Go.RowKit

theorem step_append_seesV {P : Program} {ops : Array Oper} {o : Oper} {a : Act} {K : Act → World → Prop} {Q : Exit → Act → World → Prop} {E : Prop} {w : World} (hw : Region.wanted o (yielded ops a.tmps) = true) (s x : Operand) (t : TypeId)
    (ho : o.op = .call { callee := .builtin .append, args := #[s, x], argTypes := #[t, t] }) (base : Nat) (e : TypeId) (z : Value) (size bytes : Nat) (ht : P.underlying t = some (.slice e))
    (hinfo : (P.info? e).map (fun i => (i.zero, i.size, i.bytes)) = some (some z, size, bytes)) (hzs : z.cells.size = size) (hsz : 0 < size)
    (v : Value) (n : Nat) (xs : List Value) (hs : a.eval s = v) (hown : w.ownsRow base e size v n xs)
    (A : Option Addr) (m c : Nat) (news : List Value) (hx : a.eval x = .slice A m c) (hl : news.length = m * size) (hnews : Sees w A news) (h1 : ∀ u ∈ news, u.oneCell' = true)
    (h63 : n + m ≤ maxLen) (hbytes : (n + m) * bytes ≤ 140737488355328) (hbase : base ≤ w.heap.size)
    (h : ∀ A' c' w', w'.ownsRow base e size (.slice A' (n + m) c') (n + m) (xs ++ news) → w.grownBy w' v.ownBlock → ((Value.slice A' (n + m) c').ownBlock = v.ownBlock ∨ (Value.slice A' (n + m) c').ownBlock = some w.heap.size) →
      K (a.put o.dst (.slice A' (n + m) c')) w') :
    if Region.wanted o (yielded ops a.tmps) = true then Oper.wp P o a w K Q else E := by
  rw [if_pos hw]
  obtain ⟨A', c', w', hr, h2, h3, h4⟩ := run_append_sees (P := P) w base t o.type e z size bytes ht hinfo hzs hsz v n xs hown A m c news hl hnews h1 h63 hbytes hbase
  unfold Oper.wp execOp
  simp only [ho, resolve, invoke, builtin, Sem.run_bind, Sem.run_pure, Result.andThen_ok, List.map_toArray, List.map_cons, List.map_nil, hs, hx, hr]
  exact h A' c' w' h2 h3 h4
theorem sees_grownV {W W' : World} {A : Option Addr} {vs : List Value} {row : Option Nat} (h : Sees W A vs) (hg : W.grownBy W' row) (hne : ∀ ad, A = some ad → some ad.block ≠ row) : Sees W' A vs := fun j v hj => by
  obtain ⟨ad, e, hc⟩ := h j v hj
  exact ⟨ad, e, hg.cell hc (by rw [add_blk]; exact hne ad e)⟩
theorem one_ints (l : List Int) : ∀ u ∈ l.map i64v, u.oneCell' = true := by
  intro u hu
  obtain ⟨x, _, rfl⟩ := List.mem_map.1 hu
  rfl
theorem sees_take {W : World} {A : Option Addr} {L : List Int} (k : Nat) (h : Sees W A (L.map i64v)) : Sees W A ((L.take k).map i64v) := fun j v hj => by
  refine h j v ?_
  rw [List.getElem?_map, List.getElem?_take] at hj
  rw [List.getElem?_map]
  split at hj
  · exact hj
  · cases hj
theorem sees_drop {W : World} {A X : Option Addr} {L : List Int} {k c : Nat} (hX : (if c = k then A else Option.map (fun x => x.add k) A) = X) (hc : L.length ≤ c) (h : Sees W A (L.map i64v)) : Sees W X ((L.drop k).map i64v) := by
  by_cases e : c = k
  · have h0 : L.drop k = [] := List.drop_of_length_le (by omega)
    rw [h0]
    exact Sees.nil _ _
  · rw [if_neg e] at hX
    subst hX
    intro j v hj
    rw [List.getElem?_map, List.getElem?_drop, ← List.getElem?_map] at hj
    obtain ⟨ad, rfl, hc2⟩ := h (k + j) v hj
    exact ⟨ad.add k, rfl, by rw [add_at]; exact hc2⟩
set_option maxRecDepth 16384 in
set_option maxHeartbeats 16000000 in
theorem reforder_any (A : Option Addr) (xs : List Full) (n c : Nat) (w : World) (h : SeenC w A xs) (hn : xs.length = n) (hm : n ≤ 1099511627776) :
    Calls Try.prog 27 #[.slice A n c] w (RetOrd (ordL (cvs xs) n) w) := by
  have H := Lib.hid h
  have HN := Lib.hid hn
  clear h hn
  go_enter Try.func27, Try.ntmps27
  go_wp2_with fail
  go_loopw [3, 4] (fun s3 s4 wr => ∃ (i q c' : Nat) (L : List Int) (A' : Option Addr), s3 = .slice A' q c' ∧ s4 = .int .i64 (i : Int) ∧ i ≤ n ∧ L.length = q ∧ q ≤ c' ∧ OrdR (cvs xs) i L ∧ Sees wr A' (L.map i64v) ∧ Below w.heap.size w wr) (fun _ s4 _ => n - (intOf s4).toNat)
  case atStart => exact ⟨0, 0, 0, [], none, rfl, rfl, Nat.zero_le _, rfl, Nat.le_refl _, ordR_zero _, Sees.nil _ _, Below.refl _ _⟩
  case round =>
    obtain ⟨i, q, c', L, A', rfl, rfl, hi, hq, hqc, hor, hse, hb⟩ := hrel
    have hlq := ordR_len hor
    rw [hq] at hlq
    have HQ := Lib.hid hq
    have HOR := Lib.hid hor
    have HSE := Lib.hid hse
    have HB := Lib.hid hb
    clear hq hor hse hb
    by_cases hin : i < n
    · have hii : (i : Int) < (n : Int) := by omega
      obtain ⟨x, hx, hxc⟩ := atC_get (xs := xs) (k := i) (by rw [HN.out]; exact hin)
      obtain ⟨ad, rfl, _, x1, _⟩ := (H.out.below HB.out).all hx
      have a3 := x1 3 _ (by decide) rfl
      have a4 := x1 4 _ (by decide) rfl
      have a5 := x1 5 _ (by decide) rfl
      have hdb : delB (atC (cvs xs) (i : Int)) = (!x.1.ans && (x.1.kind == 2 || decide (x.1.place ≤ 0))) := by rw [← hxc]; rfl
      clear x1 hx hxc
      obtain ⟨⟨q1, q2, q3, q4, q5, q6, q7, q8, q9, q10, q11, q12⟩, qd, qr⟩ := x
      dsimp only at a3 a4 a5 hdb
      have HDB := Lib.hid hdb
      clear hdb
      go_upto_region 5 with (fail)
      go_cut [33] from 12 to 34 (fun s33 wc => s33 = .bool (delB (atC (cvs xs) (i : Int))) ∧ wr = wc)
      case first =>
        cases q6 with
        | true =>
          go_wp2_with fail
          go_meet
          case rel => exact ⟨by rw [HDB.out]; rfl, rfl⟩
        | false =>
          by_cases k1 : q4 = 2
          · subst k1
            go_wp2_with fail
            go_meet
            case rel => exact ⟨by rw [HDB.out]; rfl, rfl⟩
          · have k1' : (q4 == 2) = false := by simpa using k1
            by_cases k2 : q5 ≤ 0
            · go_wp2_with fail
              go_meet
              case rel => exact ⟨by rw [HDB.out, k1', decide_eq_true k2]; rfl, rfl⟩
            · go_wp2_with fail
              go_meet
              case rel => exact ⟨by rw [HDB.out, k1', decide_eq_false (by omega)]; rfl, rfl⟩
      case rest =>
        obtain ⟨rfl, rfl⟩ := hcut
        obtain ⟨b, hb⟩ : ∃ b, delB (atC (cvs xs) (i : Int)) = b := ⟨_, rfl⟩
        rw [hb]
        have HBV := Lib.hid hb
        clear hb HDB a3 a4 a5
        cases b with
        | true =>
          go_wp2_with fail
          go_roundw
          case rel => exact ⟨i + 1, q, c', L, A', rfl, by go_num, hin, HQ.out, hqc, ordR_skip HOR.out HBV.out, HSE.out, HB.out⟩
          case measure => simp [intOf] <;> omega
        | false =>
          have hqn : q ≤ 1099511627776 := by omega
          go_upto_block 2 with (fail)
          go_cut [5] from 36 to 49 (fun s5 wc => ∃ k : Nat, s5 = .int .i64 (k : Int) ∧ k ≤ q ∧ CutIn (cvs xs) i L k ∧ (k = 0 ∨ ltO (cvs xs) (i : Int) (L.getD (k - 1) 0) = false) ∧ Below wr.heap.size wr wc)
          case first =>
            obtain ⟨wo, hwo⟩ : ∃ wo : World, wo = wr := ⟨_, rfl⟩
            subst hwo
            have REL0 : Hid (∃ k : Nat, Value.int .i64 (q : Int) = .int .i64 (k : Int) ∧ k ≤ q ∧ CutIn (cvs xs) i L k ∧ Below wo.heap.size wo wo) := Lib.hid ⟨q, rfl, Nat.le_refl _, by rw [← HQ.out]; exact cutIn_end _ _ _, Below.refl _ _⟩
            go_wp2_with fail
            go_loopw [5] (fun s5 wr => ∃ k : Nat, s5 = .int .i64 (k : Int) ∧ k ≤ q ∧ CutIn (cvs xs) i L k ∧ Below wo.heap.size wo wr) (fun s5 _ => (intOf s5).toNat)
            case atStart => exact REL0.out
            case round =>
              obtain ⟨k, rfl, hkq, hcu, hbk⟩ := hrel
              have HCU := Lib.hid hcu
              have HBK := Lib.hid hbk
              clear hcu hbk REL0
              cases k with
              | zero =>
                go_wp2_with fail
                go_meet
                case rel => exact ⟨0, rfl, Nat.zero_le _, HCU.out, .inl rfl, HBK.out⟩
              | succ j =>
                have hjl : j < L.length := by rw [HQ.out]; omega
                have hjq : (j : Int) < (q : Int) := by omega
                have hk0 : (0 : Int) < ((j + 1 : Nat) : Int) := by omega
                have e1 : IntKind.i64.wrap (((j + 1 : Nat) : Int) - 1) = (j : Int) := by rw [IntWalk.i64_in _ (by omega)]; omega
                obtain ⟨v, hv⟩ : ∃ v, L.getD j 0 = v := ⟨_, rfl⟩
                have hv2 : 0 ≤ v ∧ v < (i : Int) := by
                  rw [← hv, getD_of hjl]
                  exact ((HOR.out.2 _).1 (List.getElem_mem hjl)).1
                obtain ⟨y, rfl⟩ : ∃ y : Nat, v = (y : Int) := ⟨v.toNat, by omega⟩
                have hyn : y < n := by omega
                obtain ⟨ao, eo, hco⟩ := (HSE.out.below HBK.out) j (.int .i64 (y : Int)) (by
                  rw [List.getElem?_map, List.getElem?_eq_getElem hjl, ← getD_of hjl, hv]
                  rfl)
                subst eo
                have hah := ahead_any (some ad) xs n c wr (H.out.below (below_step HB.out HB.out.size HBK.out)) HN.out i y hin hyn
                obtain ⟨bo, hbo⟩ : ∃ bo, ltO (cvs xs) (i : Int) (y : Int) = bo := ⟨_, rfl⟩
                rw [hbo] at hah
                have HAH := Lib.hid hah
                have HBO : Hid (ltO (cvs xs) (i : Int) (L.getD j 0) = bo) := Lib.hid (by rw [hv]; exact hbo)
                clear hah hbo hv hv2
                cases bo with
                | true =>
                  go_wp2_with (first
                    | (go_at_call 43; refine HAH.out.mono ?_; rintro e w9 ⟨rfl, hb9⟩; have HB9 := Lib.hid (below_step HBK.out HBK.out.size hb9); clear hb9)
                    | fail)
                  go_roundw
                  case rel => exact ⟨j, by go_num, by omega, cutIn_step HCU.out HBO.out, HB9.out⟩
                  case measure => simp [intOf] <;> omega
                | false =>
                  go_wp2_with (first
                    | (go_at_call 43; refine HAH.out.mono ?_; rintro e w9 ⟨rfl, hb9⟩; have HB9 := Lib.hid (below_step HBK.out HBK.out.size hb9); clear hb9)
                    | fail)
                  go_meet
                  case rel => exact ⟨j + 1, rfl, hkq, HCU.out, .inr HBO.out, HB9.out⟩
          case rest =>
            obtain ⟨k, rfl, hkq, hcu, hlo, hbc⟩ := hcut
            have HSEET : Hid (∀ W', Below wc.heap.size wc W' → Sees W' A' ((L.take k).map i64v)) := Lib.hid (fun W' hb' => sees_take k ((HSE.out.below hbc).below hb'))
            obtain ⟨X, hX⟩ : ∃ X, (if c' = k then A' else Option.map (fun x => x.add k) A') = X := ⟨_, rfl⟩
            have HSEED : Hid (∀ W', Below wc.heap.size wc W' → Sees W' X ((L.drop k).map i64v)) := Lib.hid (fun W' hb' => sees_drop hX (by rw [HQ.out]; exact hqc) ((HSE.out.below hbc).below hb'))
            have HTL : Hid (((L.take k).map i64v).length = k * 1) := Lib.hid (by rw [List.length_map, List.length_take, HQ.out]; omega)
            have HDL : Hid (((L.drop k).map i64v).length = (q - k) * 1) := Lib.hid (by rw [List.length_map, List.length_drop, HQ.out]; omega)
            have HNEW : Hid (OrdR (cvs xs) (i + 1) (L.take k ++ [(i : Int)] ++ L.drop k)) := Lib.hid (ordR_put HOR.out HBV.out (by rw [HQ.out]; exact hkq) hcu hlo)
            have HLEN : Hid ((L.take k ++ [(i : Int)] ++ L.drop k).length = k + 1 + (q - k)) := Lib.hid (by rw [List.length_append, List.length_append, List.length_take, List.length_drop, HQ.out, List.length_singleton]; omega)
            have HBC := Lib.hid (below_step HB.out HB.out.size hbc)
            clear hcu hlo hbc
            have hkc : k ≤ c' := by omega
            go_upto_region 9 with (fail)
            have b0 : Below wc.heap.size wc wc.drew := (Below.refl _ _).drew
            have be : Below wc.heap.size wc (wc.alloc (.cells #[] 3)).drew := ((Below.refl _ _).alloc (Nat.le_refl _) _).drew
            have bep : Below wc.heap.size wc ((wc.alloc (.cells #[] 3)).alloc (.cells #[.int .i64 (i : Int)] 3)).drew := (((Below.refl _ _).alloc (Nat.le_refl _) _).alloc (by simp) _).drew
            have bpe : Below wc.heap.size wc ((wc.alloc (.cells #[.int .i64 (i : Int)] 3)).alloc (.cells #[] 3)).drew := (((Below.refl _ _).alloc (Nat.le_refl _) _).alloc (by simp) _).drew
            have HOEP : Hid (((wc.alloc (.cells #[] 3)).alloc (.cells #[.int .i64 (i : Int)] 3)).drew.ownsRow wc.heap.size 3 1 (.slice (some ⟨wc.heap.size, 0, none⟩) 0 0) 0 []) := Lib.hid (own_keep (own_alloc' (own_made0 wc 3 1) (.cells #[.int .i64 (i : Int)] 3)) (Below.refl _ _).drew)
            have HOPE : Hid (((wc.alloc (.cells #[.int .i64 (i : Int)] 3)).alloc (.cells #[] 3)).drew.ownsRow wc.heap.size 3 1 (.slice (some ⟨wc.heap.size + 1, 0, none⟩) 0 0) 0 []) := Lib.hid (by
              have h9 := own_keep (own_made0 (wc.alloc (.cells #[.int .i64 (i : Int)] 3)) 3 1) (Below.refl _ _).drew
              rw [World.size_alloc] at h9
              exact own_lower h9 (by omega))
            have HSEP : Hid (Sees ((wc.alloc (.cells #[] 3)).alloc (.cells #[.int .i64 (i : Int)] 3)).drew (some ⟨wc.heap.size + 1, 0, none⟩) [.int .i64 (i : Int)]) := Lib.hid (by
              have h9 := (sees_new (wc.alloc (.cells #[] 3)) #[.int .i64 (i : Int)] 3).below (Below.refl _ _).drew
              rw [World.size_alloc] at h9
              exact h9)
            have HSPE : Hid (Sees ((wc.alloc (.cells #[.int .i64 (i : Int)] 3)).alloc (.cells #[] 3)).drew (some ⟨wc.heap.size, 0, none⟩) [.int .i64 (i : Int)]) := Lib.hid (((sees_new wc #[.int .i64 (i : Int)] 3).below ((Below.refl _ _).alloc (Nat.le_refl _) (.cells #[] 3))).below (Below.refl _ _).drew)
            go_region_held3 (fun W' => True)
              (first
                | trivial
                | fail)
              (first
                | (refine step_append_seesV (by kernel_rfl) (.tmp 50) (.tmp 53) 41 (by rfl) wc.heap.size 3 (.int .i64 0) 1 8 Try.underlying41 infoIntD rfl (by decide) (.slice (some ⟨wc.heap.size, 0, none⟩) 0 0) 0 [] (by rfl) (by exact own_made0 wc _ 1) A' k c' ((L.take k).map i64v) (by rfl) (by exact HTL.out) (by exact HSEET.out _ be) (by exact one_ints _) (by simp only [maxLen]; omega) (by omega) (by first | (simp; done) | (simp; omega)) ?_; intro A5 c5' w5 hown5 hg5 hat5; have b5 : Below wc.heap.size wc w5 := below_grown_own be (by first | (simp; done) | (simp; omega)) (own_made0 wc _ 1) (Nat.le_refl _) hg5; have e0 : 0 + k = k := Nat.zero_add _; rw [e0]; have HO5 := Lib.hid hown5; rw [e0, List.nil_append] at HO5; have O1 := Lib.hid hat5; have bP := b5.alloc b5.size (.cells #[.int .i64 (i : Int)] 3); clear hown5 hg5 hat5 e0)
                | (have hx := O1; refine step_append_seesV (by kernel_rfl) (.tmp 54) (.tmp 56) 41 (by rfl) wc.heap.size 3 (.int .i64 0) 1 8 Try.underlying41 infoIntD rfl (by decide) (.slice A5 k c5') k ((L.take k).map i64v) (by rfl) (by exact own_alloc' HO5.out _) (some ⟨w5.heap.size, 0, none⟩) 1 1 [.int .i64 (i : Int)] (by rfl) (by rfl) (by exact sees_new _ _ _) (by simp [Value.oneCell']) (by simp only [maxLen]; omega) (by omega) (by have := bP.size; omega) ?_; intro A6 c6' w6 hown6 hg6 hat6; have b6 : Below wc.heap.size wc w6 := below_grown_own bP bP.size (own_alloc' HO5.out _) (Nat.le_refl _) hg6; have HO6 := Lib.hid hown6; clear hown6 hg6 hat6)
                | (refine step_append_seesV (by kernel_rfl) (.tmp 50) (.tmp 53) 41 (by rfl) wc.heap.size 3 (.int .i64 0) 1 8 Try.underlying41 infoIntD rfl (by decide) (.slice (some ⟨wc.heap.size, 0, none⟩) 0 0) 0 [] (by rfl) (by exact HOEP.out) A' k c' ((L.take k).map i64v) (by rfl) (by exact HTL.out) (by exact HSEET.out _ bep) (by exact one_ints _) (by simp only [maxLen]; omega) (by omega) (by first | (simp; done) | (simp; omega)) ?_; intro A5 c5' w5 hown5 hg5 hat5; have b5 : Below wc.heap.size wc w5 := below_grown_own bep (by first | (simp; done) | (simp; omega)) (HOEP.out) (Nat.le_refl _) hg5; have e0 : 0 + k = k := Nat.zero_add _; rw [e0]; have HO5 := Lib.hid hown5; rw [e0, List.nil_append] at HO5; have O2 := Lib.hid (sees_grownV (A := some ⟨wc.heap.size + 1, 0, none⟩) HSEP.out hg5 (fun ad e h => by cases e; have := Option.some.inj h; simp at this)); clear hown5 hg5 hat5 e0)
                | (refine step_append_seesV (by kernel_rfl) (.tmp 50) (.tmp 53) 41 (by rfl) wc.heap.size 3 (.int .i64 0) 1 8 Try.underlying41 infoIntD rfl (by decide) (.slice (some ⟨wc.heap.size + 1, 0, none⟩) 0 0) 0 [] (by rfl) (by exact HOPE.out) A' k c' ((L.take k).map i64v) (by rfl) (by exact HTL.out) (by exact HSEET.out _ bpe) (by exact one_ints _) (by simp only [maxLen]; omega) (by omega) (by first | (simp; done) | (simp; omega)) ?_; intro A5 c5' w5 hown5 hg5 hat5; have b5 : Below wc.heap.size wc w5 := below_grown_own bpe (by first | (simp; done) | (simp; omega)) (HOPE.out) (Nat.le_refl _) hg5; have e0 : 0 + k = k := Nat.zero_add _; rw [e0]; have HO5 := Lib.hid hown5; rw [e0, List.nil_append] at HO5; have O3 := Lib.hid (sees_grownV (A := some ⟨wc.heap.size, 0, none⟩) HSPE.out hg5 (fun ad e h => by cases e; have := Option.some.inj h; simp at this)); clear hown5 hg5 hat5 e0)
                | (have hx := O2; refine step_append_seesV (by kernel_rfl) (.tmp 54) (.tmp 56) 41 (by rfl) wc.heap.size 3 (.int .i64 0) 1 8 Try.underlying41 infoIntD rfl (by decide) (.slice A5 k c5') k ((L.take k).map i64v) (by rfl) (by exact HO5.out) (some ⟨wc.heap.size + 1, 0, none⟩) 1 1 [.int .i64 (i : Int)] (by rfl) (by rfl) (by exact O2.out) (by simp [Value.oneCell']) (by simp only [maxLen]; omega) (by omega) (by have := b5.size; omega) ?_; intro A6 c6' w6 hown6 hg6 hat6; have b6 : Below wc.heap.size wc w6 := below_grown_own b5 b5.size (HO5.out) (Nat.le_refl _) hg6; have HO6 := Lib.hid hown6; clear hown6 hg6 hat6)
                | (have hx := O3; refine step_append_seesV (by kernel_rfl) (.tmp 54) (.tmp 56) 41 (by rfl) wc.heap.size 3 (.int .i64 0) 1 8 Try.underlying41 infoIntD rfl (by decide) (.slice A5 k c5') k ((L.take k).map i64v) (by rfl) (by exact HO5.out) (some ⟨wc.heap.size, 0, none⟩) 1 1 [.int .i64 (i : Int)] (by rfl) (by rfl) (by exact O3.out) (by simp [Value.oneCell']) (by simp only [maxLen]; omega) (by omega) (by have := b5.size; omega) ?_; intro A6 c6' w6 hown6 hg6 hat6; have b6 : Below wc.heap.size wc w6 := below_grown_own b5 b5.size (HO5.out) (Nat.le_refl _) hg6; have HO6 := Lib.hid hown6; clear hown6 hg6 hat6)
                | (have hx := HO6; refine step_append_seesV (by kernel_rfl) (.tmp 57) (.tmp 60) 41 (by rfl) wc.heap.size 3 (.int .i64 0) 1 8 Try.underlying41 infoIntD rfl (by decide) (.slice A6 (k + 1) c6') (k + 1) ((L.take k).map i64v ++ [.int .i64 (i : Int)]) (by rfl) (by exact HO6.out) X (q - k) (c' - k) ((L.drop k).map i64v) (by rfl) (by exact HDL.out) (by exact HSEED.out _ b6) (by exact one_ints _) (by simp only [maxLen]; omega) (by omega) (by exact b6.size) ?_; intro A7 c7' w7 hown7 hg7 hat7; have b7 : Below wc.heap.size wc w7 := below_grown_own b6 b6.size HO6.out (Nat.le_refl _) hg7; have HO7 := Lib.hid hown7; clear hown7 hg7 hat7)
                | fail)
            all_goals go_wp2_with fail
            all_goals go_roundw
            all_goals first
              | (refine ⟨i + 1, k + 1 + (q - k), c7', L.take k ++ [(i : Int)] ++ L.drop k, A7, rfl, by go_num, hin, HLEN.out, (sees_own' HO7.out).2.1, HNEW.out, ?_, below_step HBC.out HBC.out.size b7⟩; have h9 := (sees_own' HO7.out).2.2.2; rw [List.map_append, List.map_append]; exact h9)
              | (simp [intOf]; done)
              | (simp [intOf]; omega)
    · have hii : ¬ (i : Int) < (n : Int) := by omega
      obtain rfl : i = n := by omega
      go_wp2_with fail
      go_ret
      refine ⟨A', q, c', rfl, by rw [← HQ.out, ordR_ordL HOR.out], ?_, HB.out⟩
      rw [← ordR_ordL HOR.out]
      exact HSE.out
end Go.Proofs.Ytbnbeailbhnbdaa
