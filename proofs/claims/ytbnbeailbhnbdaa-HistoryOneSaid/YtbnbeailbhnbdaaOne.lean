/-
  HistoryOne: the walk.
-/
import Derived.Test.YtbnbeailbhnbdaaTime
import Derived.Deep.RegionHeld3
import Derived.Maps.OwnOps
import Derived.Maps.OwnSet
import Derived.Maps.Views
import Derived.Maps.Keyed
set_option linter.unusedVariables false
set_option linter.unusedSimpArgs false
namespace Go.Proofs.Ytbnbeailbhnbdaa
open Go.RowKit

theorem SeenC.fields {W : World} {A : Option Addr} {xs : List Full} (h : SeenC W A xs) {k : Nat} {x : Full} (hk : xs[k]? = some x) : ∃ ad, A = some ad ∧ (∀ j v, 0 < j → x.1.cells.toList[j]? = some v → W.cell? ⟨(ad.add (k * 12)).block, (ad.add (k * 12)).off + j, none⟩ = some v) ∧
    (∀ j v, x.1.cells.toList[j]? = some v → W.cell? ((ad.add (k * 12)).add j) = some v) ∧
    (∃ D dc, x.1.dv = .slice D x.2.1.length dc ∧ x.2.1.length ≤ dc ∧ Sees W D (u8s x.2.1)) ∧ ∃ R rc, x.1.rv = .slice R x.2.2.length rc ∧ SeenR W R x.2.2 := by
  obtain ⟨ad, e, hc, h1, h2⟩ := h.at hk
  exact ⟨ad, e, fun j v hj hv => by rw [← add_pos _ j hj]; exact hc j v hv, hc, h1, h2⟩
theorem str_of {s : ByteArray} {bs : List UInt8} (h : s.data.toList = bs) : s = strB bs := by
  subst h
  cases s
  unfold strB
  simp
section
variable {P : Program} {k e : TypeId}
theorem plain_str {v : Value} {x : DataW Unit × List MemPlace} (he : P.underlying e = some .string) (h : plainElem (H := Unit) P e v = some x) : ∃ s : ByteArray, v = .string s ∧ x.1 = .lit (.string s.data.toList) := by
  unfold plainElem at h
  rw [he] at h
  cases v <;> simp at h
  rename_i s
  exact ⟨s, rfl, by rw [← h.2]⟩
theorem wpList_lookup_str {ops : Array Oper} {rest : List Oper} {o : Oper} {a : Act} {Q : Exit → Act → World → Prop} {w : World} (hg : o.guard = none) (m x : Operand) (t : TypeId) (hop : o.op = Op.lookup t m x true)
    (K : Maps.Keyed P k) (ht : P.underlying t = some (.map k e)) (he : P.underlying e = some .string) (hz : ∀ w, (zeroValue e).run P w = .ok (.string (strB [])) w) (b n : Nat) (D : DataW Unit)
    (hm : a.eval m = .map (some b)) (hown : w.ownsMap P k (plainElem P e) b n D) (key : Value) (kl : Lit) (hx : a.eval x = key) (hkey : keyOf P k key = some kl) (bv : Bool) (hbv : Maps.has D kl = bv)
    (hK : ∀ s : ByteArray, D.atKey kl (.lit (.string [])) = .lit (.string s.data.toList) → wpList P ops Q rest (a.put o.dst (.tuple #[.string s, .bool bv])) w) :
    wpList P ops Q (o :: rest) a w :=
  wpList_lookup_own_ok w hg m x t hop k e K ht (plainElem P e) (hz w) (.lit (.string [])) [] (plainElem_string he (by simp [strB, maxLen, ByteArray.size])) b n D hm hown key kl hx hkey (fun v ps hv => by
    obtain ⟨s, rfl, hs⟩ := plain_str he hv
    rw [hbv]
    exact hK s hs)
theorem step_mapUpdate {o : Oper} {a : Act} {Kk : Act → World → Prop} {Q : Exit → Act → World → Prop} {w : World} (m x v : Operand) (t : TypeId) (hop : o.op = Op.mapUpdate t m x v)
    (K : Maps.Keyed P k) (ht : P.underlying t = some (.map k e)) (b n : Nat) (D : DataW Unit)
    (hm : a.eval m = .map (some b)) (hown : w.ownsMap P k (plainElem P e) b n D) (hn : n < maxLen) (key val : Value) (kl : Lit) (hx : a.eval x = key) (hv : a.eval v = val) (hkey : keyOf P k key = some kl)
    (d : DataW Unit) (ps : List MemPlace) (hval : plainElem P e val = some (d, ps))
    (hK : ∀ w', w'.ownsMap P k (plainElem P e) b (n + 1) (D.put kl d) → w.grownBy w' (some b) → Kk (a.put o.dst undef) w') : o.wp P a w Kk Q := by
  obtain ⟨w', hrun, r1, r2⟩ := hown.update K ht hn hkey hval
  unfold Oper.wp
  simp [execOp, hop, hm, hx, hv, hrun, Result.andThen]
  exact hK w' r1 r2
end
theorem key_int {q : Int} (h1 : 0 ≤ q) (h2 : q ≤ 4000) : keyOf Try.prog 3 (.int .i64 q) = some (.int .i64 q) := by
  refine Maps.keyOf_int_mk Try.underlying3 ?_
  simp [Lit.wf, IntKind.min, IntKind.max, IntKind.signed, IntKind.bits]
  omega
theorem plain_mk (bs : List UInt8) (h : bs.length ≤ maxLen) : plainElem (H := Unit) Try.prog 9 (.string (strB bs)) = some (.lit (.string bs), []) := by
  have := plainElem_string (H := Unit) Try.underlying9 (s := strB bs) (by simpa [strB, ByteArray.size] using h)
  rw [this]
  simp [strB]
theorem getL_len {fr mo : Int} {f : Nat} {l : List (List UInt8)} : (getL fr mo f l).length ≤ l.length := by
  unfold getL
  split
  · rw [List.length_take, List.length_drop]; omega
  · exact Nat.zero_le _
theorem zero_str : ∀ w, (zeroValue 9).run Try.prog w = .ok (.string (strB [])) w := fun w => by kernel_rfl
/-- Each key of the map is that of a put, and is told its data. -/
def MI (xs : List Full) (i b : Nat) (W : World) (D : DataW Unit) : Prop := W.ownsMap Try.prog 3 (plainElem Try.prog 9) b i D ∧
  ∀ q : Int, Maps.has D (.int .i64 q) = true → ∃ j : Nat, j < i ∧ (atF xs (j : Int)).1.kind = 1 ∧ (atF xs (j : Int)).1.ans = true ∧ (atF xs (j : Int)).1.number = q ∧ D.atKey (.int .i64 q) (.lit (.string [])) = .lit (.string (atF xs (j : Int)).2.1)
theorem MI.below {xs : List Full} {i b : Nat} {W W' : World} {D : DataW Unit} (h : MI xs i b W D) (hb : Below W.heap.size W W') : MI xs i b W' D := by
  obtain ⟨⟨es, clock, h1, h2⟩, h3⟩ := h
  exact ⟨⟨es, clock, (hb.block b (Array.getElem?_eq_some_iff.1 h1).1).trans h1, h2⟩, h3⟩
theorem MI.next {xs : List Full} {i b : Nat} {W : World} {D : DataW Unit} (h : MI xs i b W D) : MI xs (i + 1) b W D :=
  ⟨h.1.mono (Nat.le_succ _), fun q hq => by obtain ⟨j, hj, r⟩ := h.2 q hq; exact ⟨j, by omega, r⟩⟩
theorem MI.put {xs : List Full} {i b : Nat} {W W' : World} {D : DataW Unit} (h : MI xs i b W D) {q : Int} (k1 : (atF xs (i : Int)).1.kind = 1) (k2 : (atF xs (i : Int)).1.ans = true) (k3 : (atF xs (i : Int)).1.number = q)
    (ho : W'.ownsMap Try.prog 3 (plainElem Try.prog 9) b (i + 1) (D.put (.int .i64 q) (.lit (.string (atF xs (i : Int)).2.1)))) : MI xs (i + 1) b W' (D.put (.int .i64 q) (.lit (.string (atF xs (i : Int)).2.1))) := by
  have hk : WideAt.IsKeyLit (.int .i64 q) := by trivial
  have hD : Maps.IsMap D := by
    obtain ⟨es, clock, _, _, _, hd⟩ := h.1
    exact ⟨_, hd⟩
  refine ⟨ho, fun q' hq' => ?_⟩
  by_cases he : (Lit.int .i64 q') = .int .i64 q
  · have he2 : q' = q := by
      injection he
    subst he2
    exact ⟨i, by omega, k1, k2, k3, Maps.atKey_put_same hD hk _ _⟩
  · rw [Maps.has_put_other he] at hq'
    obtain ⟨j, hj, r1, r2, r3, r4⟩ := h.2 q' hq'
    exact ⟨j, by omega, r1, r2, r3, by rw [Maps.atKey_put_other he]; exact r4⟩
theorem MI.new (xs : List Full) (W : World) : MI xs 0 W.heap.size (W.alloc (.map #[] 0)) (.map []) := ⟨World.ownsMap_made _ _ _ _, fun q hq => by simp [Maps.has_eq] at hq⟩
set_option maxRecDepth 16384 in
set_option maxHeartbeats 8000000 in
theorem one_any (A O : Option Addr) (xs : List Full) (os : List Int) (n c m oc : Nat) (w : World) (h : SeenC w A xs) (hn : xs.length = n) (hn2 : n * 128 ≤ 140737488351232) (hs : Small xs) (hO : Sees w O (os.map i64v)) (hm : os.length = m) (hm2 : m ≤ 140737488355328) :
    Calls Try.prog 4 #[.slice A n c, .slice O m oc] w (RetBool w true) := by
  have HOWN := Lib.hid (own_any A xs n c w h hn hn2 hs)
  have H := Lib.hid h
  have HN := Lib.hid hn
  have HS := Lib.hid hs
  have HO := Lib.hid hO
  have HM := Lib.hid hm
  have hmm := @run_makeMap Try.prog
  clear h hn hs hO hm
  go_enter Try.func4, Try.ntmps4
  go_upto_region 2 with (first
    | (go_at_call 22; refine HOWN.out.mono ?_; rintro e w1 ⟨A1, c1, gc, ys, rfl, hl1, hsm, hf1, hg1, hb1⟩; rw [HN.out]; have HL1 := Lib.hid hl1; have HSM := Lib.hid hsm; have HB1 := Lib.hid hb1; rw [HN.out] at hf1; have HLG := Lib.hid (legal_any (cp := c1) (oc := oc) w1 hf1 hg1 (by omega) (HO.out.below hb1) HM.out hm2 (same_data hsm hl1 HS.out)); clear hl1 hsm hf1 hg1 hb1)
    | (go_at_call 21; refine HLG.out.mono ?_; rintro e w2 ⟨la, le, rfl, hlg, hb2⟩; have HLI := Lib.hid hlg; have HB2 := Lib.hid (below_step HB1.out HB1.out.size hb2); clear hlg hb2)
    | fail)
  by_cases hle : le = 0
  · subst hle
    have HLW := Lib.hid HLI.out.lawful
    have HIN : Hid (∀ i, i < n → ∃ y, atF ys (i : Int) = y ∧ SameF (atF xs (i : Int)) y ∧ i < ys.length) := Lib.hid (fun i hi => ⟨_, rfl, SameF.at HSM.out HL1.out (by rw [HN.out]; exact hi), by rw [HL1.out, HN.out]; exact hi⟩)
    have HPUT : Hid (∀ i k, i < n → k < n → (atF xs (i : Int)).1.kind = 1 → (atF xs (k : Int)).1.kind = 1 → (atF xs (i : Int)).1.ans = true → (atF xs (k : Int)).1.ans = true → (atF xs (i : Int)).1.number = (atF xs (k : Int)).1.number → i = k) := Lib.hid (by
      intro i k hi hk k1 k2 k3 k4 k5
      obtain ⟨y, e1, s1, l1⟩ := HIN.out i hi
      obtain ⟨z, e2, s2, l2⟩ := HIN.out k hk
      exact HLW.out.puts l1 l2 (by rw [e1, s1.2]; exact k1) (by rw [e2, s2.2]; exact k2) (by rw [e1, s1.2]; exact k3) (by rw [e2, s2.2]; exact k4) (by rw [e1, e2, s1.2, s2.2]; exact k5))
    have HGET : Hid (∀ i k q r, i < n → k < n → (atF xs (i : Int)).1.kind = 1 → (atF xs (k : Int)).1.kind = 2 → (atF xs (i : Int)).1.ans = true → (atF xs (k : Int)).1.ans = true → (atF xs (k : Int)).2.2[q]? = some r → (atF xs (i : Int)).1.number = (atF xs (k : Int)).1.frm + (q : Nat) → (atF xs (i : Int)).2.1 = r) := Lib.hid (by
      intro i k q r hi hk k1 k2 k3 k4 k5 k6
      obtain ⟨y, e1, s1, l1⟩ := HIN.out i hi
      obtain ⟨z, e2, s2, l2⟩ := HIN.out k hk
      have := HLW.out.gets (q := q) (r := r) l1 l2 (by rw [e1, s1.2]; exact k1) (by rw [e2, s2.2]; exact k2) (by rw [e1, s1.2]; exact k3) (by rw [e2, s2.2]; exact k4) (by rw [e2, s2.1]; exact k5) (by rw [e1, e2, s1.2, s2.2]; exact k6)
      rw [e1, s1.1] at this
      exact this)
    have HFRM : Hid (∀ k, k < n → (atF xs (k : Int)).1.kind = 2 → (atF xs (k : Int)).1.ans = true → 0 ≤ (atF xs (k : Int)).1.frm ∧ (atF xs (k : Int)).1.frm ≤ 2000 ∧ (atF xs (k : Int)).2.2.length ≤ 2000) := Lib.hid (by
      intro k hk k2 k4
      obtain ⟨z, e2, s2, l2⟩ := HIN.out k hk
      obtain ⟨v, hv, ev⟩ := HLW.out.place l2 (by rw [e2, s2.2]; exact k4)
      obtain ⟨g1, _, g3⟩ := HLW.out.get_fit hv ev (by rw [e2, s2.2]; exact k4) (by rw [e2, s2.2]; exact k2)
      have g4 := @getL_len (atF ys (k : Int)).1.frm (atF ys (k : Int)).1.most (runM ys os v).1 (runM ys os v).2
      rw [g3, e2, s2.1] at g4
      rw [e2, s2.2] at g1
      have hb := run_bound ys os v
      have hl := ord_len HLW.out.ord
      have hr := (right_alone HLW.out.right).1
      rw [cvs_length] at hr
      unfold getOK at g1
      simp at g1
      omega)
    have HNUM : Hid (∀ k, k < n → (atF xs (k : Int)).1.kind = 1 → (atF xs (k : Int)).1.ans = true → 0 ≤ (atF xs (k : Int)).1.number ∧ (atF xs (k : Int)).1.number ≤ 2000) := Lib.hid (by
      intro k hk k2 k4
      obtain ⟨z, e2, s2, l2⟩ := HIN.out k hk
      obtain ⟨v, hv, ev⟩ := HLW.out.place l2 (by rw [e2, s2.2]; exact k4)
      have g1 := HLW.out.put_number hv ev (by rw [e2, s2.2]; exact k4) (by rw [e2, s2.2]; exact k2)
      rw [e2, s2.2] at g1
      have hb := run_bound ys os v
      have hl := ord_len HLW.out.ord
      have hr := (right_alone HLW.out.right).1
      rw [cvs_length] at hr
      unfold nx at g1
      have g2 : (atF xs (k : Int)).1.number = (((runM ys os v).1 + (runM ys os v).2.length : Nat) : Int) := g1
      omega)
    have HZ := Lib.hid zero_str
    go_wp2_with (first
      | (go_at_call 23; refine (num_any _ _).mono ?_; rintro e w3 ⟨rfl, rfl⟩)
      | fail)
    have HMI0 := Lib.hid (MI.new xs w2)
    obtain ⟨bm, hbm⟩ : ∃ bm, w2.heap.size = bm := ⟨_, rfl⟩
    rw [hbm] at HMI0
    try rw [hbm]
    have HBM := Lib.hid hbm
    have HB3 : Hid (Below w.heap.size w (w2.alloc (.map #[] 0))) := Lib.hid (HB2.out.alloc HB2.out.size _)
    have hwb : w.heap.size ≤ bm := by rw [← hbm]; exact HB2.out.size
    clear hbm
    go_loopw [8] (fun s8 wr => ∃ (i : Nat) (Dm : DataW Unit), s8 = .int .i64 (i : Int) ∧ i ≤ n ∧ Below w.heap.size w wr ∧ MI xs i bm wr Dm) (fun s8 _ => n - (intOf s8).toNat)
    case atStart => exact ⟨0, _, rfl, Nat.zero_le _, HB3.out, HMI0.out⟩
    case round =>
      obtain ⟨i, Dm, rfl, hi, hb, hmi⟩ := hrel
      have HB := Lib.hid hb
      have HMI := Lib.hid hmi
      clear hb hmi HMI0 HB3
      by_cases hin : i < n
      · have hii : (i : Int) < (n : Int) := by omega
        obtain ⟨p, hp⟩ : ∃ p, atF xs (i : Int) = p := ⟨_, rfl⟩
        obtain ⟨ad, rfl, hf0, _, ⟨D1, dc1, e1, e2, e3⟩, R1, rc1, e4, _⟩ := H.out.fields (atF_get (by rw [HN.out]; exact hin))
        rw [hp] at hf0 e1 e2 e3 e4
        have hbk : (ad.add (i * 12)).block < w.heap.size := by
          have := World.block_lt_of_cell? _ _ (hf0 8 _ (by decide) rfl)
          exact this
        have hf : ∀ j v, 0 < j → p.1.cells.toList[j]? = some v → wr.cell? ⟨(ad.add (i * 12)).block, (ad.add (i * 12)).off + j, none⟩ = some v := fun j v hj hv => (HB.out.cell (p := ⟨(ad.add (i * 12)).block, (ad.add (i * 12)).off + j, none⟩) hbk).trans (hf0 j v hj hv)
        have HBK := Lib.hid hbk
        clear hf0 hbk
        have hdl := (HS.out (atF xs (i : Int)) (List.mem_of_getElem? (atF_get (by rw [HN.out]; exact hin)))).1
        rw [hp] at hdl
        have HPP := Lib.hid hp
        obtain ⟨⟨q1, q2, q3, q4, q5, q6, q7, q8, q9, q10, q11, q12⟩, qd, qr⟩ := p
        dsimp only at e1 e2 e3 e4 hdl
        subst e1 e4
        obtain ⟨ql, hql⟩ : ∃ ql, qd.length = ql := ⟨_, rfl⟩
        have f3 : wr.cell? ⟨(ad.add (i * 12)).block, (ad.add (i * 12)).off + 3, none⟩ = some (.int .i64 q4) := hf 3 _ (by decide) rfl
        have f5 : wr.cell? ⟨(ad.add (i * 12)).block, (ad.add (i * 12)).off + 5, none⟩ = some (.bool q6) := hf 5 _ (by decide) rfl
        have f8 : wr.cell? ⟨(ad.add (i * 12)).block, (ad.add (i * 12)).off + 8, none⟩ = some (.int .i64 q9) := hf 8 _ (by decide) rfl
        have f10 : wr.cell? ⟨(ad.add (i * 12)).block, (ad.add (i * 12)).off + 10, none⟩ = some (.slice D1 ql dc1) := by rw [← hql]; exact hf 10 _ (by decide) rfl
        have HSD := Lib.hid e3
        have HQL := Lib.hid hql
        clear hf e3 hp hql
        by_cases t1 : q4 = 1
        · subst t1
          cases q6 with
          | false =>
            go_wp2_with fail
            go_roundw
            case rel => exact ⟨i + 1, Dm, by go_num, hin, HB.out, HMI.out.next⟩
            case measure => simp [intOf] <;> omega
          | true =>
            have hnew : Maps.has Dm (.int .i64 q9) = false := by
              cases hh : Maps.has Dm (.int .i64 q9)
              · rfl
              · obtain ⟨j, hj, r1, r2, r3, _⟩ := HMI.out.2 q9 hh
                have := HPUT.out j i (by omega) hin r1 (by rw [HPP.out]) r2 (by rw [HPP.out]) (by rw [r3, HPP.out])
                omega
            have HNEW := Lib.hid hnew
            clear hnew
            have hkey : keyOf Try.prog 3 (.int .i64 q9) = some (.int .i64 q9) := by
              have := HNUM.out i hin (by rw [HPP.out]) (by rw [HPP.out])
              rw [HPP.out] at this
              exact key_int (by dsimp only at this; omega) (by dsimp only at this; omega)
            have HKEY := Lib.hid hkey
            clear hkey
            go_upto_region 12 with (first
              | (at_lookup; refine wpList_lookup_str rfl _ _ 48 rfl (Maps.int_keyed Try.underlying3) Try.underlying48 Try.underlying9 HZ.out bm _ Dm rfl HMI.out.1 _ (.int .i64 q9) rfl HKEY.out false HNEW.out ?_; intro sx _)
              | fail)
            have hblk : (ad.add (i * 12)).block < bm := by have := HBK.out; omega
            have d8 : wr.drew.cell? ⟨(ad.add (i * 12)).block, (ad.add (i * 12)).off + 8, none⟩ = some (.int .i64 q9) := f8
            have d10 : wr.drew.cell? ⟨(ad.add (i * 12)).block, (ad.add (i * 12)).off + 10, none⟩ = some (.slice D1 ql dc1) := f10
            have HCV : Hid (∀ W', Below w.heap.size w W' → (convert 30 9 (.slice D1 ql dc1)).run Try.prog W' = .ok (.string (strB qd)) W') := Lib.hid (fun W' hb => run_string_sees _ _ _ _ Try.underlying30 Try.underlying5 Try.underlying9 _ _ _ _ HQL.out (HSD.out.below hb))
            have hval := plain_mk qd (by have := HQL.out; simp only [maxLen]; omega)
            have HVAL := Lib.hid hval
            clear hval
            obtain ⟨w6, hrun6, hown6, hg6⟩ := (HMI.out.1.drew).update (Maps.int_keyed Try.underlying3) Try.underlying48 (by simp only [maxLen]; omega) HKEY.out HVAL.out
            have g8 := hg6.cell d8 (fun e => by have : (ad.add (i * 12)).block = bm := (Option.some.inj e); omega)
            have g10 := hg6.cell d10 (fun e => by have : (ad.add (i * 12)).block = bm := (Option.some.inj e); omega)
            have HO6 := Lib.hid hown6
            have HG6 := Lib.hid hg6
            have hb6 : Below w.heap.size w w6 := (HB.out.drew).grown hg6 (HB.out.size) (fun k hk => by cases hk; exact hwb)
            clear hown6 hg6
            go_region_held3 (fun W' => W'.cell? ⟨(ad.add (i * 12)).block, (ad.add (i * 12)).off + 8, none⟩ = some (.int .i64 q9) ∧ W'.cell? ⟨(ad.add (i * 12)).block, (ad.add (i * 12)).off + 10, none⟩ = some (.slice D1 ql dc1) ∧ (convert 30 9 (.slice D1 ql dc1)).run Try.prog W' = .ok (.string (strB qd)) W')
              (first
                | exact ⟨d8, d10, HCV.out _ HB.out.drew⟩
                | exact ⟨g8, g10, HCV.out _ hb6⟩
                | fail)
              (fail)
            go_wp2_with fail
            go_roundw
            case rel =>
              have hm6 := HMI.out.put (W' := w6) (by rw [HPP.out]) (by rw [HPP.out]) (by rw [HPP.out]) (by rw [HPP.out]; exact HO6.out)
              exact ⟨i + 1, _, by go_num, hin, hb6, hm6⟩
            case measure => simp [intOf] <;> omega
        · have t1' : (q4 == 1) = false := by simpa using t1
          go_wp2_with fail
          go_roundw
          case rel => exact ⟨i + 1, Dm, by go_num, hin, HB.out, HMI.out.next⟩
          case measure => simp [intOf] <;> omega
      · have hii : ¬ (i : Int) < (n : Int) := by omega
        go_wp2_with fail
        obtain ⟨wo, hwo⟩ : ∃ wo : World, wo = wr := ⟨_, rfl⟩
        subst hwo
        go_loopw [11] (fun s11 wr => ∃ k : Nat, s11 = .int .i64 (k : Int) ∧ k ≤ n ∧ Below w.heap.size w wr ∧ MI xs i bm wr Dm) (fun s11 _ => n - (intOf s11).toNat)
        case atStart => exact ⟨0, rfl, Nat.zero_le _, HB.out, HMI.out⟩
        case round =>
          obtain ⟨k, rfl, hk, hbk, hmk⟩ := hrel
          have HBK := Lib.hid hbk
          have HMK := Lib.hid hmk
          clear hbk hmk HMI HB
          by_cases hkn : k < n
          · have hki : (k : Int) < (n : Int) := by omega
            obtain ⟨g, hg⟩ : ∃ g, atF xs (k : Int) = g := ⟨_, rfl⟩
            obtain ⟨ad, rfl, _, hc2, ⟨D2, dc2, e3, _⟩, R2, rc2, e4, hsr⟩ := (H.out.below HBK.out).fields (atF_get (by rw [HN.out]; exact hkn))
            rw [hg] at hc2 e3 e4 hsr
            have HGG := Lib.hid hg
            have hone2 : g.1.cells.all (·.oneCell') = true := by
              have := all_oneCell_toArray (oneCells g.1 (by rw [e3]; rfl) (by rw [e4]; rfl))
              simpa using this
            obtain ⟨hb1, x1⟩ := box_callR (c := g.1) wr
            obtain ⟨W1, hW1⟩ : ∃ W1, (wr.alloc (.cells zeros12 50)).setCells wr.heap.size 0 g.1.cells.toList = W1 := ⟨_, rfl⟩
            rw [hW1] at hb1 x1
            obtain ⟨gb, hgb⟩ : ∃ gb, wr.heap.size = gb := ⟨_, rfl⟩
            rw [hgb] at x1
            obtain ⟨mR, hmR⟩ : ∃ mR, g.2.2.length = mR := ⟨_, rfl⟩
            rw [hmR] at e4
            have g3 : W1.cell? ⟨gb, 3, none⟩ = some (.int .i64 g.1.kind) := x1 3 _ rfl
            have g5 : W1.cell? ⟨gb, 5, none⟩ = some (.bool g.1.ans) := x1 5 _ rfl
            have g6 : W1.cell? ⟨gb, 6, none⟩ = some (.int .i64 g.1.frm) := x1 6 _ rfl
            have g11 : W1.cell? ⟨gb, 11, none⟩ = some (.slice R2 mR rc2) := by rw [← e4]; exact x1 11 _ rfl
            have HC2 := Lib.hid hc2
            have HO2 := Lib.hid hone2
            have HW1 := Lib.hid hW1
            have HGB := Lib.hid hgb
            have HBE : Hid (Below w.heap.size w W1) := Lib.hid (below_step HBK.out HBK.out.size hb1)
            have HME := Lib.hid (HMK.out.below hb1)
            have HSR := Lib.hid (hsr.below hb1)
            have HMR := Lib.hid hmR
            clear hc2 hone2 hW1 hb1 x1 e3 e4 hg hgb hsr hmR
            go_upto_region 17 with (first
              | (refine wpList_load_far rfl 50 _ rfl (ad.add (k * 12)) rfl g.1.cells.toList _ HC2.out Try.underlying50 rfl (by kernel_rfl) ?_)
              | (refine wpList_store_mid rfl 50 _ _ rfl wr.heap.size 0 g.1.cells rfl rfl (there_oneR wr) (by kernel_rfl) HO2.out ?_)
              | fail)
            have hWW := HW1.out
            unfold zeros12 at hWW
            rw [hWW, HGB.out]
            clear hWW
            obtain ⟨⟨r1, r2, r3, r4, r5, r6, r7, r8, r9, r10, r11, r12⟩, rd, rr⟩ := g
            dsimp only at g3 g5 g6 HMR
            by_cases t2 : r4 = 2
            · subst t2
              cases r6 with
              | false =>
                go_wp2_with fail
                go_roundw
                case rel => exact ⟨k + 1, by go_num, hkn, HBE.out, HME.out⟩
                case measure => simp [intOf] <;> omega
              | true =>
                obtain ⟨z1, z2, z3⟩ := HFRM.out k hkn (by rw [HGG.out]) (by rw [HGG.out])
                rw [HGG.out] at z1 z2 z3
                dsimp only at z1 z2 z3
                have z3' : mR ≤ 2000 := by have := HMR.out; omega
                clear z3
                go_wp2_with fail
                go_loopw [13] (fun s13 wr => ∃ q : Nat, s13 = .int .i64 (q : Int) ∧ q ≤ mR ∧ W1 = wr) (fun s13 _ => mR - (intOf s13).toNat)
                case atStart => exact ⟨0, rfl, Nat.zero_le _, rfl⟩
                case round =>
                  obtain ⟨q, rfl, hq, rfl⟩ := hrel
                  by_cases hqm : q < mR
                  · have hqi : (q : Int) < (mR : Int) := by omega
                    obtain ⟨ad8, A8, c8, rfl, hc8, _, hs8⟩ := HSR.out.at (k := q) (by rw [HMR.out]; exact hqm)
                    obtain ⟨re, hre⟩ : ∃ re, rr[q]'(by rw [HMR.out]; exact hqm) = re := ⟨_, rfl⟩
                    rw [hre] at hc8 hs8
                    have hreq : rr[q]? = some re := by rw [List.getElem?_eq_getElem (by rw [HMR.out]; exact hqm), hre]
                    obtain ⟨rl, hrl⟩ : ∃ rl, re.length = rl := ⟨_, rfl⟩
                    rw [hrl] at hc8
                    obtain ⟨ss, hss⟩ : ∃ ss, strB re = ss := ⟨_, rfl⟩
                    have hcv : (convert 30 9 (.slice A8 rl c8)).run Try.prog W1 = .ok (.string ss) W1 := by
                      rw [← hss]
                      exact run_string_sees _ _ _ _ Try.underlying30 Try.underlying5 Try.underlying9 _ _ _ _ hrl hs8
                    have hwr : IntKind.i64.wrap (r7 + (q : Int)) = r7 + (q : Int) := IntWalk.i64_in _ (by omega)
                    have HKEY := Lib.hid (key_int (q := r7 + (q : Int)) (by omega) (by omega))
                    obtain ⟨bv, hbv⟩ : ∃ bv, Maps.has Dm (.int .i64 (r7 + (q : Int))) = bv := ⟨_, rfl⟩
                    have HBV := Lib.hid hbv
                    have HSS := Lib.hid hss
                    have HREQ := Lib.hid hreq
                    clear hbv hss hreq hre hrl hs8
                    cases bv with
                    | true =>
                      have hget : Dm.atKey (.int .i64 (r7 + (q : Int))) (.lit (.string [])) = .lit (.string re) := by
                        obtain ⟨j, hj, k1, k2, k3, k4⟩ := HME.out.2 _ HBV.out
                        rw [k4, HGET.out j k q re (by omega) hkn k1 (by rw [HGG.out]) k2 (by rw [HGG.out]) (by rw [HGG.out]; exact HREQ.out) (by rw [HGG.out]; exact k3)]
                      have HAT := Lib.hid hget
                      clear hget
                      go_wp2_with (first
                        | (at_lookup; refine wpList_lookup_str rfl _ _ 48 rfl (Maps.int_keyed Try.underlying3) Try.underlying48 Try.underlying9 HZ.out bm _ Dm rfl HME.out.1 _ (.int .i64 (r7 + (q : Int))) rfl HKEY.out true HBV.out ?_; intro sx hsx; obtain rfl : sx = ss := (by rw [HAT.out] at hsx; rw [← HSS.out]; exact (str_of (by injection hsx with h1; injection h1 with h2; exact h2.symm))))
                        | fail)
                      go_roundw
                      case rel => exact ⟨q + 1, by go_num, hqm, by first | trivial | rfl⟩
                      case measure => simp [intOf] <;> omega
                    | false =>
                      go_wp2_with (first
                        | (at_lookup; refine wpList_lookup_str rfl _ _ 48 rfl (Maps.int_keyed Try.underlying3) Try.underlying48 Try.underlying9 HZ.out bm _ Dm rfl HME.out.1 _ (.int .i64 (r7 + (q : Int))) rfl HKEY.out false HBV.out ?_; intro sx _)
                        | fail)
                      go_roundw
                      case rel => exact ⟨q + 1, by go_num, hqm, by first | trivial | rfl⟩
                      case measure => simp [intOf] <;> omega
                  · have hqi : ¬ (q : Int) < (mR : Int) := by omega
                    go_wp2_with fail
                    go_roundw
                    case rel => exact ⟨k + 1, by go_num, hkn, HBE.out, HME.out⟩
                    case measure => simp [intOf] <;> omega
            · have t2' : (r4 == 2) = false := by simpa using t2
              go_wp2_with fail
              go_roundw
              case rel => exact ⟨k + 1, by go_num, hkn, HBE.out, HME.out⟩
              case measure => simp [intOf] <;> omega
          · have hki : ¬ (k : Int) < (n : Int) := by omega
            go_wp2_with (first
              | (go_at_call 10; refine (knows_any _).mono ?_; rintro e w3 ⟨rfl, hb3⟩; have HB3 := Lib.hid (below_step HBK.out HBK.out.size hb3); clear hb3)
              | fail)
            go_ret
            exact ⟨rfl, HB3.out⟩
  · have hle' : (le == 0) = false := by simpa using hle
    go_wp2_with (first
      | (go_at_call 23; refine (num_any _ _).mono ?_; rintro e w3 ⟨rfl, rfl⟩)
      | (go_at_call 10; refine (knows_any _).mono ?_; rintro e w3 ⟨rfl, hb3⟩; have HB3 := Lib.hid (below_step HB2.out HB2.out.size hb3); clear hb3)
      | fail)
    go_ret
    exact ⟨rfl, HB3.out⟩
end Go.Proofs.Ytbnbeailbhnbdaa
