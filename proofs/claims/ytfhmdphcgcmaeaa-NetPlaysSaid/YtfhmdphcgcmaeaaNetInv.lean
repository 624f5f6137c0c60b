/-
  A net that a law has made, call by call; maps that a law has made.
-/
import Derived.Test.YtfhmdphcgcmaeaaNetO
import Derived.Maps.OwnOps
import Derived.Maps.Views
import Derived.Maps.Keyed
set_option linter.unusedVariables false
set_option linter.unusedSimpArgs false
namespace Go.Proofs.Ytfhmdphcgcmaeaa
open Go.RowKit

/-- A net that the law has made. -/
def WInv (w0 : World) (g : Nat) (most : Int) (ls : List Lt) (wl : List Bool) (W : World) : Prop := NetAt (From w0.heap.size) g most ls wl W ∧ Fit most ls ∧ Below w0.heap.size w0 W
/-- Nothing has turned but the net's blocks. -/
def NStep (w0 : World) (W W' : World) : Prop := Outside (NetS w0.heap.size W) W W'
theorem NStep.of_below {w0 W W' : World} (h : Below W.heap.size W W') : NStep w0 W W' := Outside.of_below h
theorem NStep.size {w0 W W' : World} (h : NStep w0 W W') : W.heap.size ≤ W'.heap.size := Outside.size h
section
variable {w0 W : World} {g : Nat} {most : Int} {ls : List Lt} {wl : List Bool}
theorem WInv.later {W' : World} (h : WInv w0 g most ls wl W) (hb : Later W W') : WInv w0 g most ls wl W' := ⟨h.1.below hb, h.2.1, below_step h.2.2 h.2.2.size hb⟩
theorem WInv.of_plus {ls' : List Lt} {wl' : List Bool} {W' : World} (h : WInv w0 g most ls wl W) (hf : Fit most ls') (hn : NetAt (Plus (NetS w0.heap.size W) W) g most ls' wl' W') (ho : Outside (NetS w0.heap.size W) W W') : WInv w0 g most ls' wl' W' ∧ NStep w0 W W' :=
  ⟨⟨hn.mono (NetS.plus h.2.2.size), hf, h.2.2.trans (ho.below (fun b hb => hb.1) h.2.2.size)⟩, ho⟩
def sendN (most : Int) (ls : List Lt) (l : Lt) : List Lt := if sendE most ls.length l = 0 then ls ++ [l] else ls
def RetN (w0 : World) (g : Nat) (most v : Int) (ls : List Lt) (wl : List Bool) (W : World) (e : Ending) (w' : World) : Prop := e = .returned (.int .i64 v) ∧ WInv w0 g most ls wl w' ∧ NStep w0 W w'
theorem WInv.send (h : WInv w0 g most ls wl W) (f t : Int) (A : Option Addr) (bs : List UInt8) (c : Nat) (hc : bs.length ≤ c) (hl : bs.length ≤ 140737488355328) (hA : Sees W A (u8s bs)) :
    Calls Try.prog 11 #[.pointer (some ⟨g, 0, none⟩), .agg #[.int .i64 f, .int .i64 t, .slice A bs.length c]] W (RetN w0 g most (sendE most ls.length (f, t, bs)) (sendN most ls (f, t, bs)) wl W) :=
  (send_any f t A bs c W h.1.kind h.2.1.lo h.2.1.hi h.2.1.len hc hl hA).mono fun e w' ⟨he, hn, ho⟩ => ⟨he, h.of_plus (by
    unfold sendN
    split
    · rename_i hs; exact h.2.1.snoc hs
    · exact h.2.1) hn ho⟩
theorem Fit.sub {ls' : List Lt} (h : Fit most ls) (hl : ls'.length ≤ ls.length) (hs : ∀ l ∈ ls', l ∈ ls) : Fit most ls' := ⟨h.lo, h.hi, by have := h.len; omega, fun l hl => h.all l (hs l hl)⟩
theorem Fit.erase (h : Fit most ls) (k : Nat) : Fit most (ls.eraseIdx k) := h.sub (by rw [List.length_eraseIdx]; split <;> omega) (fun l hl => List.mem_of_mem_eraseIdx hl)
def RetNL (w0 : World) (g : Nat) (most : Int) (l : Lt) (err : Int) (ls : List Lt) (wl : List Bool) (W : World) (e : Ending) (w' : World) : Prop :=
  (∃ A c, e = .returned (.tuple #[.agg #[.int .i64 l.1, .int .i64 l.2.1, .slice A l.2.2.length c], .int .i64 err]) ∧ w'.ownsRow W.heap.size 5 1 (.slice A l.2.2.length c) l.2.2.length (u8s l.2.2)) ∧ WInv w0 g most ls wl w' ∧ NStep w0 W w'
theorem WInv.take (h : WInv w0 g most ls wl W) (k : Int) :
    Calls Try.prog 13 #[.pointer (some ⟨g, 0, none⟩), .int .i64 k] W (RetNL w0 g most (takeL wl ls k) (takeE wl ls k) (takeN wl ls k) wl W) :=
  (take_any k W h.1.kind h.2.1).mono fun e w' ⟨he, hn, ho⟩ => ⟨he, h.of_plus (by
    unfold takeN
    split
    · exact h.2.1.erase _
    · exact h.2.1) hn ho⟩
/-- The same, said of the blocks that lay there in an earlier world. -/
def FStep (w0 W0 W W' : World) : Prop := Outside (Cut (NetS w0.heap.size W0) W0) W W'
theorem FStep.far {w0 W0 W W' : World} (h : FStep w0 W0 W W') {b : Nat} (hb : W0.heap.size ≤ b) (hl : b < W.heap.size) : W'.heap[b]? = W.heap[b]? := h.block b hl (Cut.not hb)
def RetNF (w0 W0 : World) (g : Nat) (most : Int) (l : Lt) (err : Int) (ls : List Lt) (wl : List Bool) (W : World) (e : Ending) (w' : World) : Prop :=
  (∃ A c, e = .returned (.tuple #[.agg #[.int .i64 l.1, .int .i64 l.2.1, .slice A l.2.2.length c], .int .i64 err]) ∧ w'.ownsRow W.heap.size 5 1 (.slice A l.2.2.length c) l.2.2.length (u8s l.2.2)) ∧ WInv w0 g most ls wl w' ∧ FStep w0 W0 W w'
theorem WInv.take_far {W0 : World} (h : WInv w0 g most ls wl W0) (hl : Later W0 W) (k : Int) :
    Calls Try.prog 13 #[.pointer (some ⟨g, 0, none⟩), .int .i64 k] W (RetNF w0 W0 g most (takeL wl ls k) (takeE wl ls k) (takeN wl ls k) wl W) :=
  (take_any k W (h.1.kind.cut.below hl) h.2.1).mono fun e w' ⟨he, hn, ho⟩ => ⟨he, ⟨hn.mono (fun b hb => hb.elim (fun h' => h'.1.1) (fun h2 => Nat.le_trans (h.later hl).2.2.size h2)), by
    unfold takeN
    split
    · exact h.2.1.erase _
    · exact h.2.1, (h.later hl).2.2.trans (ho.below (fun b hb => hb.1.1) (h.later hl).2.2.size)⟩, ho⟩
theorem WInv.lose (h : WInv w0 g most ls wl W) (k : Int) :
    Calls Try.prog 17 #[.pointer (some ⟨g, 0, none⟩), .int .i64 k] W (RetN w0 g most (atE k ls.length) (if atE k ls.length = 0 then ls.eraseIdx k.toNat else ls) wl W) :=
  (lose_any k W h.1.kind (by have := h.2.1.lo; omega)).mono fun e w' ⟨he, hn, ho⟩ => ⟨he, h.of_plus (by
    split
    · exact h.2.1.erase _
    · exact h.2.1) hn ho⟩
theorem lookL_right (hf : Fit most ls) {k : Int} (h : atE k ls.length = 0) : ∃ j : Nat, (j : Int) = k ∧ ∃ hj : j < ls.length, lookL ls k = ls[j] := by
  have hk : ¬ (k < 0 ∨ (ls.length : Int) ≤ k) := fun hk => by unfold atE at h; rw [if_pos hk] at h; cases h
  obtain ⟨j, rfl⟩ : ∃ j : Nat, (j : Int) = k := ⟨k.toNat, by omega⟩
  exact ⟨j, rfl, by omega, lookL_some (by omega)⟩
def doubleN (most : Int) (ls : List Lt) (k : Int) : List Lt := if doubleE most ls k = 0 then ls ++ [lookL ls k] else ls
theorem WInv.double (h : WInv w0 g most ls wl W) (k : Int) :
    Calls Try.prog 18 #[.pointer (some ⟨g, 0, none⟩), .int .i64 k] W (RetN w0 g most (doubleE most ls k) (doubleN most ls k) wl W) :=
  (double_any k W h.1.kind h.2.1).mono fun e w' ⟨he, hn, ho⟩ => ⟨he, h.of_plus (by
    unfold doubleN
    split
    · rename_i hd
      unfold doubleE at hd
      split at hd
      · exact h.2.1.snoc hd
      · exact absurd hd (by assumption)
    · exact h.2.1) hn ho⟩
theorem WInv.wall (h : WInv w0 g most ls wl W) (A : Option Addr) (c : Nat) (ids : List Int) (hc : ids.length ≤ c) (hlen : ids.length ≤ 9223372036854775807) (hA : Sees W A (ids.map intV)) :
    Calls Try.prog 19 #[.pointer (some ⟨g, 0, none⟩), .slice A ids.length c] W (RetN w0 g most (wallE ids) ls (if wallE ids = 0 then wallL ids else wl) W) :=
  (wall_any A c ids W h.1.kind (by have := h.2.1.lo; omega) hc hlen hA).mono fun e w' ⟨he, hn, ho⟩ => ⟨he, h.of_plus h.2.1 hn ho⟩
theorem WInv.clear (h : WInv w0 g most ls wl W) :
    Calls Try.prog 24 #[.pointer (some ⟨g, 0, none⟩)] W (RetN w0 g most (ls.length : Int) [] wl W) :=
  (clear_any W h.1.kind (by have := h.2.1.lo; omega)).mono fun e w' ⟨he, hn, ho⟩ => ⟨he, h.of_plus (Fit.nil h.2.1.lo h.2.1.hi) hn ho⟩
theorem WInv.length (h : WInv w0 g most ls wl W) : Calls Try.prog 15 #[.pointer (some ⟨g, 0, none⟩)] W fun e w' => e = .returned (.int .i64 (ls.length : Int)) ∧ W = w' := len_any W h.1 (by have := h.2.1.lo; omega)
theorem WInv.look (h : WInv w0 g most ls wl W) (k : Int) : Calls Try.prog 16 #[.pointer (some ⟨g, 0, none⟩), .int .i64 k] W (RetLook W (lookL ls k) (atE k ls.length)) := look_any k W h.1 (by have := h.2.1.lo; omega) h.2.1.bytes
theorem WInv.opens (h : WInv w0 g most ls wl W) (f t : Int) (A : Option Addr) (n c : Nat) (hn : n ≤ 140737488355328) : Calls Try.prog 21 #[.pointer (some ⟨g, 0, none⟩), .agg #[.int .i64 f, .int .i64 t, .slice A n c]] W (RetVal W (.bool (openB wl f t n))) := open_any f t A n c W h.1 (by have := h.2.1.lo; omega) hn
theorem WInv.next (h : WInv w0 g most ls wl W) (fr : Int) : Calls Try.prog 20 #[.pointer (some ⟨g, 0, none⟩), .int .i64 fr] W (RetVal W (.int .i64 (nextN wl ls fr.toNat))) := next_any fr W h.1 (by have := h.2.1.lo; omega) h.2.1.bytes (by have := h.2.1.len; have := h.2.1.hi; omega)
end
/-! ### maps -/
section
variable {P : Program} {k e : TypeId}
/-- A map of the call's own: what each key is told. -/
def MapAt (P : Program) (k e : TypeId) (Kl : Lit → Prop) (z : Lit) (w : World) (b n : Nat) (M : Lit → Lit) : Prop :=
  ∃ D : DataW Unit, w.ownsMap P k (plainElem P e) b n D ∧ ∀ kl, Kl kl → D.atKey kl (.lit z) = .lit (M kl)
theorem MapAt.made (Kl : Lit → Prop) (z : Lit) (w : World) : MapAt P k e Kl z (w.alloc (.map #[] 0)) w.heap.size 0 (fun _ => z) := ⟨.map [], World.ownsMap_made _ _ _ _, fun _ _ => rfl⟩
theorem MapAt.block {Kl : Lit → Prop} {z : Lit} {w w' : World} {b n : Nat} {M : Lit → Lit} (h : MapAt P k e Kl z w b n M) (hb : w'.heap[b]? = w.heap[b]?) : MapAt P k e Kl z w' b n M := by
  obtain ⟨D, ⟨es, clock, h1, h2⟩, h3⟩ := h
  exact ⟨D, ⟨es, clock, hb.trans h1, h2⟩, h3⟩
theorem MapAt.lt {Kl : Lit → Prop} {z : Lit} {w : World} {b n : Nat} {M : Lit → Lit} (h : MapAt P k e Kl z w b n M) : b < w.heap.size := by
  obtain ⟨D, h1, _⟩ := h
  exact h1.lt
theorem MapAt.later {Kl : Lit → Prop} {z : Lit} {w w' : World} {b n : Nat} {M : Lit → Lit} (h : MapAt P k e Kl z w b n M) (hb : Later w w') : MapAt P k e Kl z w' b n M := h.block (hb.block b h.lt)
theorem MapAt.nstep {Kl : Lit → Prop} {z : Lit} {w0 w w' : World} {b n : Nat} {M : Lit → Lit} (h : MapAt P k e Kl z w b n M) (hb : NStep w0 w w') : MapAt P k e Kl z w' b n M := by
  refine h.block (hb.block b h.lt (fun hk => ?_))
  obtain ⟨_, cs, t, h1, _⟩ := hk
  obtain ⟨D, ⟨es, clock, h2, _⟩, _⟩ := h
  rw [h1] at h2
  cases h2
theorem MapAt.put {Kl : Lit → Prop} {z : Lit} {w w' : World} {b n : Nat} {M : Lit → Lit} {D : DataW Unit} {kl d : Lit} {M' : Lit → Lit} (h1 : M' kl = d) (h2 : ∀ kl', kl' ≠ kl → Kl kl' → M' kl' = M kl') (hD : w.ownsMap P k (plainElem P e) b n D) (hM : ∀ kl, Kl kl → D.atKey kl (.lit z) = .lit (M kl)) (hk : WideAt.IsKeyLit kl)
    (h : w'.ownsMap P k (plainElem P e) b (n + 1) (D.put kl (.lit d))) : MapAt P k e Kl z w' b (n + 1) M' := by
  refine ⟨_, h, fun kl' hkl => ?_⟩
  obtain ⟨es, clock, _, _, _, hd⟩ := hD
  by_cases he : kl' = kl
  · subst he
    rw [h1]
    exact Maps.atKey_put_same ⟨_, hd⟩ hk _ _
  · rw [Maps.atKey_put_other he, h2 _ he hkl]
    exact hM _ hkl
theorem wpList_mapUpdate_at {ops : Array Oper} {rest : List Oper} {o : Oper} {a : Act} {Q : Exit → Act → World → Prop} {w : World} (hg : o.guard = none) (m x v : Operand) (t : TypeId) (hop : o.op = Op.mapUpdate t m x v)
    (K : Maps.Keyed P k) (ht : P.underlying t = some (.map k e)) {Kl : Lit → Prop} {z : Lit} {b n : Nat} {M : Lit → Lit} (hm : a.eval m = .map (some b)) (hM : MapAt P k e Kl z w b n M) (hn : n < maxLen) (key val : Value) (kl d : Lit) (hx : a.eval x = key) (hv : a.eval v = val)
    (hkey : keyOf P k key = some kl) (hk : WideAt.IsKeyLit kl) (hval : plainElem (H := Unit) P e val = some (.lit d, [])) (M' : Lit → Lit) (h1 : M' kl = d) (h2 : ∀ kl', kl' ≠ kl → Kl kl' → M' kl' = M kl')
    (hK : ∀ w', MapAt P k e Kl z w' b (n + 1) M' → w.grownBy w' (some b) → wpList P ops Q rest (a.put o.dst undef) w') : wpList P ops Q (o :: rest) a w := by
  obtain ⟨D, hown, hat⟩ := hM
  exact wpList_mapUpdate_own w hg m x v t hop k e K ht _ b n D hm hown hn key val kl hx hv hkey (.lit d) [] hval (fun w' r1 r2 => hK w' (MapAt.put h1 h2 hown hat hk r1) r2)
theorem MapAt.look_bool {Kl : Lit → Prop} {w : World} {b n : Nat} {M : Lit → Lit} (h : MapAt P k e Kl (.bool false) w b n M) {t : TypeId} (K : Maps.Keyed P k) (ht : P.underlying t = some (.map k e)) (he : P.underlying e = some .bool) (hz : ∀ w, (zeroValue e).run P w = .ok (.bool false) w)
    {key : Value} {kl : Lit} (hkey : keyOf P k key = some kl) (hkl : Kl kl) : ∃ c, (Instr.lookup t (.map (some b)) key false).run P w = .ok (.bool c) w ∧ M kl = .bool c := by
  obtain ⟨D, hown, hat⟩ := h
  obtain ⟨v, ps, hrun, hv⟩ := hown.lookup K ht (hz w) (plainElem_bool he false) hkey
  rw [hat kl hkl] at hv
  unfold plainElem at hv
  rw [he] at hv
  cases v <;> simp at hv
  rename_i c
  exact ⟨c, hrun, hv.1.symm⟩
theorem MapAt.look_int {Kl : Lit → Prop} {w : World} {b n : Nat} {M : Lit → Lit} (h : MapAt P k e Kl (.int .i64 0) w b n M) {t : TypeId} (K : Maps.Keyed P k) (ht : P.underlying t = some (.map k e)) (he : P.underlying e = some (.int .i64)) (hz : ∀ w, (zeroValue e).run P w = .ok (.int .i64 0) w)
    {key : Value} {kl : Lit} (hkey : keyOf P k key = some kl) (hkl : Kl kl) : ∃ c, (Instr.lookup t (.map (some b)) key false).run P w = .ok (.int .i64 c) w ∧ M kl = .int .i64 c := by
  obtain ⟨D, hown, hat⟩ := h
  obtain ⟨c, hrun, hc, _⟩ := hown.lookup_int K ht he (hz w) hkey
  rw [hat kl hkl] at hc
  injection hc with hc
  exact ⟨c, hrun, hc⟩
theorem MapAt.fstep {Kl : Lit → Prop} {z : Lit} {w0 W0 w w' : World} {b n : Nat} {M : Lit → Lit} (h : MapAt P k e Kl z W0 b n M) (hl : Later W0 w) (hb : FStep w0 W0 w w') : MapAt P k e Kl z w' b n M := by
  refine (h.later hl).block (hb.block b (h.later hl).lt (fun hk => ?_))
  obtain ⟨⟨_, cs, t, h1, _⟩, _⟩ := hk
  obtain ⟨D, ⟨es, clock, h2, _⟩, _⟩ := h
  rw [h1] at h2
  cases h2
/-- What a map does to the net's blocks: nothing. -/
theorem WInv.mapped {w0 W W' : World} {g : Nat} {most : Int} {ls : List Lt} {wl : List Bool} {Kl : Lit → Prop} {z : Lit} {b n : Nat} {M : Lit → Lit} (h : WInv w0 g most ls wl W) (hm : MapAt P k e Kl z W b n M) (hB : w0.heap.size ≤ b) (hg : W.grownBy W' (some b)) : WInv w0 g most ls wl W' := by
  refine ⟨(h.1.kind.keep fun b' hb' hs => hg.block b' hb' (fun e => ?_)).mono (fun b' hb' => hb'.1), h.2.1, h.2.2.grown hg h.2.2.size (fun k hk => by cases hk; exact hB)⟩
  have e : b' = b := by simpa using e
  subst e
  obtain ⟨cs, t, h1, _⟩ := hs.2
  obtain ⟨D, ⟨es, clock, h2, _⟩, _⟩ := hm
  rw [h1] at h2
  cases h2
end
end Go.Proofs.Ytfhmdphcgcmaeaa
