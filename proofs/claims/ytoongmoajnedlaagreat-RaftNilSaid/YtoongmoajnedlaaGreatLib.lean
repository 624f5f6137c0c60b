/-
  Words of our own that no program is named in: a row of cells that is read, bytes, whole numbers.
-/
import Derived.WalkKit
import Derived.KernelRfl
import Derived.RowKit3
import Derived.Below
import Derived.Lib.Hide
import Derived.IntWalk
import Derived.Laws.BitsAllLaws
import Derived.Laws.OwnMore
import Derived.Deep.AppendLies
import Derived.Deep.Draws
import Derived.Maps.AppendAt
import Derived.OwnWalk
import Derived.WalkSpells
import Derived.Deep.QuietTactic
import Derived.BigQuiet
import Derived.Outline
import Derived.Laws.BytesArg
set_option linter.unusedVariables false
set_option linter.unusedSimpArgs false
namespace Go.Proofs.YtoongmoajnedlaaGreat
open Go.RowKit

/-- The cells from A on are these. -/
def Sees (w : World) (A : Option Addr) (vs : List Value) : Prop := ∀ j v, vs[j]? = some v → ∃ ad, A = some ad ∧ w.cell? (ad.add j) = some v

theorem Sees.nil (w : World) (A : Option Addr) : Sees w A [] := fun j v h => by simp at h
theorem Sees.below {w w1 : World} {A : Option Addr} {vs : List Value} (h : Sees w A vs) (hb : Below w.heap.size w w1) : Sees w1 A vs := fun j v hj => by
  obtain ⟨ad, e, hc⟩ := h j v hj
  exact ⟨ad, e, (hb.cell (World.block_lt_of_cell? w _ hc)).trans hc⟩
theorem Sees.drewN {w : World} {A : Option Addr} {vs : List Value} (h : Sees w A vs) (n : Nat) : Sees (w.drewN n) A vs := h
theorem add_at (a : Addr) (i j : Nat) : (a.add i).add j = a.add (i + j) := by
  unfold Addr.add
  by_cases hi : i = 0
  · subst hi; simp
  · by_cases hj : j = 0
    · subst hj; simp
    · simp [hi, hj, Nat.add_assoc]
theorem add_pos (a : Addr) (n : Nat) (h : 0 < n) : a.add n = ⟨a.block, a.off + n, none⟩ := by unfold Addr.add; rw [if_neg (by omega)]
theorem add_raw (b o i : Nat) : (⟨b, o, none⟩ : Addr).add i = ⟨b, o + i, none⟩ := by unfold Addr.add; split <;> simp_all
theorem add_base (g j : Nat) : (⟨g, 0, none⟩ : Addr).add j = ⟨g, j, none⟩ := by unfold Addr.add; split <;> simp_all
theorem add_blk (a : Addr) (i : Nat) : (a.add i).block = a.block := by unfold Addr.add; split <;> rfl
theorem Sees.take {w : World} {A : Option Addr} {vs : List Value} (h : Sees w A vs) (n : Nat) : Sees w A (vs.take n) := fun j v hj => by
  rw [List.getElem?_take] at hj
  split at hj
  · exact h j v hj
  · cases hj
theorem Sees.drop {w : World} {ad : Addr} {vs : List Value} (h : Sees w (some ad) vs) (n : Nat) : Sees w (some (ad.add n)) (vs.drop n) := fun j v hj => by
  rw [List.getElem?_drop] at hj
  obtain ⟨ad', e, hc⟩ := h (n + j) v hj
  cases e
  exact ⟨_, rfl, by rw [add_at]; exact hc⟩
theorem Sees.drop' {w : World} {A : Option Addr} {vs : List Value} (h : Sees w A vs) (n : Nat) : Sees w (A.map (·.add n)) (vs.drop n) := by
  cases A with
  | some ad => exact h.drop n
  | none =>
    intro j v hj
    rw [List.getElem?_drop] at hj
    obtain ⟨ad', e, _⟩ := h (n + j) v hj
    cases e
theorem Sees.drop_if {w : World} {A : Option Addr} {vs : List Value} (h : Sees w A vs) (n c : Nat) (hc : vs.length ≤ c) : Sees w (if c = n then A else A.map (·.add n)) (vs.drop n) := by
  split
  · rename_i e
    rw [List.drop_of_length_le (by omega)]
    exact Sees.nil _ _
  · exact h.drop' n
/-- A row of the call's own reads as it is. -/
theorem sees_own {w : World} {base n size : Nat} {e : TypeId} {v : Value} {xs : List Value} (h : w.ownsRow base e size v n xs) : ∃ A c, v = .slice A n c ∧ n ≤ c ∧ c ≤ maxLen ∧ Sees w A xs := by
  rcases h.2 with ⟨rfl, rfl⟩ | ⟨g, cap, cur, rfl, hb, hh, hn, hm, hs, ht⟩
  · have : xs = [] := List.eq_nil_of_length_eq_zero (by have := h.1; simpa using this)
    subst this
    exact ⟨none, 0, rfl, Nat.le_refl _, Nat.zero_le _, Sees.nil _ _⟩
  · refine ⟨_, cap, rfl, hn, hm, fun j u hj => ⟨_, rfl, h.cells (g := g) rfl j u hj⟩⟩
theorem sees_own' {w : World} {base n m c size : Nat} {e : TypeId} {A : Option Addr} {xs : List Value} (h : w.ownsRow base e size (.slice A m c) n xs) : m = n ∧ n ≤ c ∧ c ≤ maxLen ∧ Sees w A xs := by
  obtain ⟨A', c', e', h1, h2, h3⟩ := sees_own h
  cases e'
  exact ⟨rfl, h1, h2, h3⟩
theorem own_pos {w : World} {base n m c size : Nat} {e : TypeId} {A : Option Addr} {xs : List Value} (h : w.ownsRow base e size (.slice A m c) n xs) (hn : 0 < n) : n ≤ c ∧ ∃ g, A = some ⟨g, 0, none⟩ ∧ base ≤ g ∧ g < w.heap.size := by
  obtain ⟨g, cap, e1, h1, h2⟩ := h.form hn
  obtain ⟨_, h3, _⟩ := sees_own' h
  cases e1
  exact ⟨h3, g, rfl, h1, h2⟩
theorem own_keep {w w1 : World} {base n size : Nat} {e : TypeId} {v : Value} {xs : List Value} (h : w.ownsRow base e size v n xs) (hb : Below w.heap.size w w1) : w1.ownsRow base e size v n xs := by
  obtain ⟨h1, h2⟩ := h
  refine ⟨h1, ?_⟩
  rcases h2 with h2 | ⟨g, cap, cur, hv, hg, hh, r⟩
  · exact .inl h2
  · exact .inr ⟨g, cap, cur, hv, hg, (hb.block g (Array.getElem?_eq_some_iff.1 hh).1).trans hh, r⟩
theorem own_lower {w : World} {base base' n size : Nat} {e : TypeId} {v : Value} {xs : List Value} (h : w.ownsRow base e size v n xs) (hle : base' ≤ base) : w.ownsRow base' e size v n xs := by
  obtain ⟨h1, h2⟩ := h
  refine ⟨h1, ?_⟩
  rcases h2 with h2 | ⟨g, cap, cur, hv, hg, hh, r⟩
  · exact .inl h2
  · exact .inr ⟨g, cap, cur, hv, Nat.le_trans hle hg, hh, r⟩
theorem own_block_ge {w : World} {base n size : Nat} {e : TypeId} {v : Value} {xs : List Value} (h : w.ownsRow base e size v n xs) (k : Nat) (hk : v.ownBlock = some k) : base ≤ k ∧ k < w.heap.size := by
  rcases h.2 with ⟨rfl, _⟩ | ⟨g, cap, cur, rfl, hg, hh, _⟩
  · simp [Value.ownBlock] at hk
  · have : g = k := by simpa [Value.ownBlock] using hk
    subst this
    exact ⟨hg, (Array.getElem?_eq_some_iff.1 hh).1⟩
theorem below_grown_own {w w1 w2 : World} {B base n size : Nat} {e : TypeId} {v : Value} {xs : List Value} (hb : Below B w w1) (hB : B ≤ w1.heap.size) (ho : w1.ownsRow base e size v n xs) (hle : B ≤ base) (hg : w1.grownBy w2 v.ownBlock) : Below B w w2 :=
  hb.grown hg hB (fun k hk => Nat.le_trans hle (own_block_ge ho k hk).1)
theorem below_step {w w1 w2 : World} {B : Nat} (h : Below B w w1) (hB : B ≤ w1.heap.size) (k : Below w1.heap.size w1 w2) : Below B w w2 := h.trans (k.mono hB)
theorem below_draws {B : Nat} {w W : World} (h : Below B w W) (n : Nat) : Below B w (W.drewN n) := ⟨h.os, h.tape, h.output, h.size, h.block⟩
theorem info_three {P : Program} {e : TypeId} {z : Value} {size bytes : Nat} (h : (P.info? e).map (fun i => (i.zero, i.size, i.bytes)) = some (some z, size, bytes)) : ∃ i, P.info? e = some i ∧ i.zero = some z ∧ i.size = size ∧ i.bytes = bytes := by
  obtain ⟨i, hi, hz⟩ := Option.map_eq_some_iff.1 h
  simp only [Prod.mk.injEq] at hz
  exact ⟨i, hi, hz.1, hz.2.1, hz.2.2⟩

/-! ### append of a row that is seen, nil and empty ones too -/
section
variable {P : Program}
theorem run_append_sees (w : World) (base : Nat) (t ty e : TypeId) (z : Value) (size bytes : Nat) (ht : P.underlying t = some (.slice e)) (hinfo : (P.info? e).map (fun i => (i.zero, i.size, i.bytes)) = some (some z, size, bytes))
    (hzs : z.cells.size = size) (hsz : 0 < size) (v : Value) (n : Nat) (xs : List Value) (hown : w.ownsRow base e size v n xs)
    (A : Option Addr) (m c : Nat) (news : List Value) (hl : news.length = m * size) (hnews : Sees w A news) (h1 : ∀ u ∈ news, u.oneCell' = true)
    (h63 : n + m ≤ maxLen) (hbytes : (n + m) * bytes ≤ 140737488355328) (hbase : base ≤ w.heap.size) :
    ∃ A' c' w', (Builtin.append_ #[t, t] ty #[v, .slice A m c]).run P w = .ok (.slice A' (n + m) c') w' ∧ w'.ownsRow base e size (.slice A' (n + m) c') (n + m) (xs ++ news) ∧ w.grownBy w' v.ownBlock ∧
      ((Value.slice A' (n + m) c').ownBlock = v.ownBlock ∨ (Value.slice A' (n + m) c').ownBlock = some w.heap.size) := by
  obtain ⟨i, hi, hz, hs, hb⟩ := info_three hinfo
  cases A with
  | some ad =>
    obtain ⟨v', w', hr, h2, h3, _, h4⟩ := run_append_own_at w base t ty e i z size bytes ht hi hz hs hb hzs hsz v n xs hown ad m c news hl (fun j u hj => by
      obtain ⟨ad', e, hc⟩ := hnews j u hj
      cases e
      exact hc) h1 h63 hbytes hbase
    obtain ⟨A', c', rfl, _⟩ := sees_own h2
    exact ⟨A', c', w', hr, h2, h3, h4⟩
  | none =>
    have hn : news = [] := by
      rcases news with _ | ⟨u, l⟩
      · rfl
      · obtain ⟨_, e, _⟩ := hnews 0 u rfl
        cases e
    subst hn
    have hm : m = 0 := by
      have : m * size = 0 := by simpa using hl.symm
      rcases Nat.mul_eq_zero.1 this with h | h <;> omega
    subst hm
    obtain ⟨A', c', rfl, _⟩ := sees_own hown
    refine ⟨A', c', w, ?_, by simpa using hown, World.grownBy.refl w _, .inl rfl⟩
    rcases hown.2 with ⟨hv, rfl⟩ | ⟨g, cap, cur, hv, _, _, hnc, _⟩
    · cases hv
      simp [Builtin.append_, run_underlying ht, sizeOf, typeInfo, hi, Builtin.lenOf, Builtin.firstCells]
    · cases hv
      simp [Builtin.append_, run_underlying ht, sizeOf, typeInfo, hi, Builtin.lenOf, Builtin.firstCells, hnc, storeCells]

theorem wpList_append_sees {ops : Array Oper} {rest : List Oper} {o : Oper} {a : Act} {Q : Exit → Act → World → Prop} {w : World} (hgd : o.guard = none) (s x : Operand) (t : TypeId)
    (ho : o.op = .call { callee := .builtin .append, args := #[s, x], argTypes := #[t, t] }) (base : Nat) (e : TypeId) (z : Value) (size bytes : Nat) (ht : P.underlying t = some (.slice e))
    (hinfo : (P.info? e).map (fun i => (i.zero, i.size, i.bytes)) = some (some z, size, bytes)) (hzs : z.cells.size = size) (hsz : 0 < size)
    (v : Value) (n : Nat) (xs : List Value) (hs : a.eval s = v) (hown : w.ownsRow base e size v n xs)
    (A : Option Addr) (m c : Nat) (news : List Value) (hx : a.eval x = .slice A m c) (hl : news.length = m * size) (hnews : Sees w A news) (h1 : ∀ u ∈ news, u.oneCell' = true)
    (h63 : n + m ≤ maxLen) (hbytes : (n + m) * bytes ≤ 140737488355328) (hbase : base ≤ w.heap.size)
    (h : ∀ A' c' w', w'.ownsRow base e size (.slice A' (n + m) c') (n + m) (xs ++ news) → w.grownBy w' v.ownBlock → ((Value.slice A' (n + m) c').ownBlock = v.ownBlock ∨ (Value.slice A' (n + m) c').ownBlock = some w.heap.size) →
      wpList P ops Q rest (a.put o.dst (.slice A' (n + m) c')) w') : wpList P ops Q (o :: rest) a w := by
  refine wpList_plain hgd fun K hK => ?_
  obtain ⟨A', c', w', hr, h2, h3, h4⟩ := run_append_sees (P := P) w base t o.type e z size bytes ht hinfo hzs hsz v n xs hown A m c news hl hnews h1 h63 hbytes hbase
  unfold Oper.wp execOp
  simp only [ho, resolve, invoke, builtin, Sem.run_bind, Sem.run_pure, Result.andThen_ok, List.map_toArray, List.map_cons, List.map_nil, hs, hx, hr]
  exact hK _ _ (h A' c' w' h2 h3 h4)
end

/-- '[]T{}': a new block without cells. -/
theorem own_made0 (w : World) (e : TypeId) (size : Nat) : (w.alloc (.cells #[] e)).ownsRow w.heap.size e size (.slice (some ⟨w.heap.size, 0, none⟩) 0 0) 0 [] :=
  ⟨by simp, .inr ⟨w.heap.size, 0, #[], rfl, Nat.le_refl _, heap_alloc_new _ _, Nat.le_refl _, Nat.zero_le _, by simp, by simp⟩⟩

/-- '[]T{x, ..}': a new block, of these cells. -/
theorem own_lit (w : World) (e : TypeId) (xs : List Value) (n : Nat) (hn : xs.length = n) (hm : n ≤ maxLen := by simp only [maxLen]; omega) : (w.alloc (.cells xs.toArray e)).ownsRow w.heap.size e 1 (.slice (some ⟨w.heap.size, 0, none⟩) n n) n xs :=
  ⟨by simpa using hn, .inr ⟨w.heap.size, n, xs.toArray, rfl, Nat.le_refl _, heap_alloc_new _ _, Nat.le_refl _, hm, by simpa using hn, by simp [← hn]⟩⟩
/-- A new block is seen whole. -/
theorem sees_new (w : World) (cs : Array Value) (e : TypeId) : Sees (w.alloc (.cells cs e)) (some ⟨w.heap.size, 0, none⟩) cs.toList := fun j v hj => by
  refine ⟨_, rfl, ?_⟩
  rw [add_base]
  unfold World.cell?
  rw [heap_alloc_new w (.cells cs e)]
  simpa using hj
theorem own_alloc' {w : World} {base n size : Nat} {e : TypeId} {v : Value} {xs : List Value} (h : w.ownsRow base e size v n xs) (o : Obj) : (w.alloc o).ownsRow base e size v n xs := own_keep h ((Below.refl _ _).alloc (Nat.le_refl _) _)

/-- The world is as it was, but for draws. -/
def RetQuiet (w : World) (v : Value) (e : Ending) (w' : World) : Prop := e = .returned v ∧ ∃ n, w' = w.drewN n
theorem quiet_at {P : Program} {f : FuncId} {args : Array Value} {w : World} {a x : Nat} {v : Value} (h : Calls P f args (w.drewN (a + x)) (RetQuiet (w.drewN (a + x)) v)) : Calls P f args (w.drewN (a + x)) fun e w'' => e = .returned v ∧ ∃ n, w'' = w.drewN (a + n) :=
  h.mono fun _ _ ⟨he, m, hm⟩ => ⟨he, x + m, by rw [hm, World.drewN_drewN, Nat.add_assoc]⟩
theorem grown_drewN (w : World) (n : Nat) : w.grownBy (w.drewN n) none := ⟨rfl, rfl, rfl, Nat.le_refl _, fun _ _ _ => rfl⟩
/-- What laid blocks alone. -/
theorem below_grown {w w1 : World} (h : Below w.heap.size w w1) : w.grownBy w1 none := ⟨h.os, h.tape, h.output, h.size, fun i hi _ => h.block i hi⟩
theorem below_drewN (w : World) (n : Nat) : Below w.heap.size w (w.drewN n) := below_draws (Below.refl _ _) n

/-! ### bytes -/
def u8v (b : UInt8) : Value := .int .u8 (b.toNat : Int)
def u8s (bs : List UInt8) : List Value := bs.map u8v
theorem u8s_length (bs : List UInt8) : (u8s bs).length = bs.length := by simp [u8s]
theorem u8s_append (a b : List UInt8) : u8s (a ++ b) = u8s a ++ u8s b := by simp [u8s]
theorem u8s_take (a : List UInt8) (n : Nat) : u8s (a.take n) = (u8s a).take n := by simp [u8s]
theorem u8s_drop (a : List UInt8) (n : Nat) : u8s (a.drop n) = (u8s a).drop n := by simp [u8s]
theorem u8s_one (bs : List UInt8) : ∀ u ∈ u8s bs, u.oneCell' = true := by
  intro u hu
  obtain ⟨b, _, rfl⟩ := List.mem_map.1 hu
  rfl
theorem u8_at {w : World} {A : Option Addr} {bs : List UInt8} (h : Sees w A (u8s bs)) (k : Nat) (hk : k < bs.length) : ∃ ad, A = some ad ∧ w.cell? (ad.add k) = some (.int .u8 (bs[k].toNat : Int)) := by
  exact h k _ (by simp [u8s, u8v, hk])
theorem u8_get_append {bs : List UInt8} {xs : List UInt8} (k : Nat) (h : k < xs.length) : (u8s (bs ++ xs))[bs.length + k]? = some (u8v xs[k]) := by
  simp [u8s, List.getElem?_append_right, h]
/-- The text of some bytes. -/
def strB (bs : List UInt8) : ByteArray := ⟨bs.toArray⟩
theorem strB_nums (bs : List UInt8) : strOfNums (bs.map fun b => (b.toNat : Int)) = strB bs := by
  unfold strOfNums strB
  congr 2
  simp [Function.comp_def]
theorem spot_none {w : World} {ad : Addr} {v : Value} (h : w.cell? ad = some v) : ad = ⟨ad.block, ad.off, none⟩ := by
  obtain ⟨b, o, s⟩ := ad
  cases s with
  | none => rfl
  | some s =>
    unfold World.cell? at h
    cases hh : w.heap[b]? with
    | none => simp [hh] at h
    | some o' => cases o' <;> simp [hh] at h
theorem run_string_sees {P : Program} (w : World) (src dst e : TypeId) (hs : P.underlying src = some (.slice e)) (he : P.underlying e = some (.int .u8)) (hd : P.underlying dst = some .string) (A : Option Addr) (n c : Nat) (bs : List UInt8) (hn : bs.length = n) (h : Sees w A (u8s bs)) :
    (convert src dst (.slice A n c)).run P w = .ok (.string (strB bs)) w := by
  rcases Nat.eq_zero_or_pos n with h0 | h0
  · subst h0
    obtain rfl : bs = [] := List.eq_nil_of_length_eq_zero hn
    cases A with
    | none => exact run_convert_bytes_nil w src e hs he 0 c dst hd
    | some ad =>
      rw [run_convert_bytes_string w src dst e _ 0 c hs he hd]
      simp [Conv.bytesToString, loadCells, loadCellsFrom, strB]
      rfl
  · obtain ⟨ad, rfl, hc⟩ := u8_at h 0 (by omega)
    have hc0 : w.cell? ad = _ := hc
    have hsp := spot_none hc0
    rw [hsp] at h ⊢
    rw [← strB_nums]
    refine run_convert_bytes_arg w src e hs he ad.block ad.off n c _ (by simpa using hn) (fun i hi => ?_) dst hd
    obtain ⟨ad', e', hc'⟩ := u8_at h i (by omega)
    cases e'
    rw [← add_raw, hc']
    have hib : i < bs.length := by omega
    clear hsp
    simp [List.getD_eq_getElem?_getD, List.getElem?_eq_getElem hib]
/-! ### records in rows -/
/-- The cells are those of these records, one behind the other; each has sz cells. -/
def Recs {α : Type} (R : World → α → List Value → Prop) (sz : Nat) (w : World) (xs : List α) (cells : List Value) : Prop :=
  ∃ css : List (List Value), cells = css.flatten ∧ css.length = xs.length ∧ ∀ (j : Nat) (x : α) (cs : List Value), xs[j]? = some x → css[j]? = some cs → cs.length = sz ∧ R w x cs
theorem flatten_len {sz : Nat} : ∀ {css : List (List Value)}, (∀ cs ∈ css, cs.length = sz) → css.flatten.length = css.length * sz
  | [], _ => by simp
  | cs :: l, h => by
    have h1 := flatten_len (css := l) (fun c hc => h c (List.mem_cons_of_mem _ hc))
    have h2 := h cs List.mem_cons_self
    simp only [List.flatten_cons, List.length_append, List.length_cons, h1, h2, Nat.add_mul]
    omega
theorem flatten_get {sz : Nat} : ∀ {css : List (List Value)}, (∀ cs ∈ css, cs.length = sz) → ∀ (j : Nat) (cs : List Value), css[j]? = some cs → ∀ k u, cs[k]? = some u → css.flatten[j * sz + k]? = some u
  | [], _, j, cs, hj, _, _, _ => by simp at hj
  | c :: l, h, 0, cs, hj, k, u, hk => by
    simp only [List.getElem?_cons_zero, Option.some.injEq] at hj
    subst hj
    rw [List.flatten_cons, Nat.zero_mul, Nat.zero_add, List.getElem?_append_left (List.getElem?_eq_some_iff.1 hk).1]
    exact hk
  | c :: l, h, j + 1, cs, hj, k, u, hk => by
    have h1 := flatten_get (css := l) (fun c hc => h c (List.mem_cons_of_mem _ hc)) j cs (by simpa using hj) k u hk
    have h2 := h c List.mem_cons_self
    rw [List.flatten_cons, List.getElem?_append_right (by rw [h2, Nat.add_mul]; omega), h2]
    rw [show (j + 1) * sz + k - sz = j * sz + k from by rw [Nat.add_mul]; omega]
    exact h1
section
variable {α : Type} {R : World → α → List Value → Prop} {sz : Nat} {w : World} {xs : List α} {cells : List Value}
theorem Recs.nil : Recs R sz w [] [] := ⟨[], rfl, rfl, fun j x cs hx _ => by simp at hx⟩
theorem Recs.all (h : Recs R sz w xs cells) : ∃ css : List (List Value), cells = css.flatten ∧ css.length = xs.length ∧ (∀ cs ∈ css, cs.length = sz) ∧ ∀ (j : Nat) (x : α) (cs : List Value), xs[j]? = some x → css[j]? = some cs → R w x cs := by
  obtain ⟨css, h1, h2, h3⟩ := h
  refine ⟨css, h1, h2, fun cs hc => ?_, fun j x cs hx hc => (h3 j x cs hx hc).2⟩
  obtain ⟨j, hj, rfl⟩ := List.getElem_of_mem hc
  exact (h3 j _ _ (List.getElem?_eq_getElem (by omega)) (List.getElem?_eq_getElem hj)).1
theorem Recs.length (h : Recs R sz w xs cells) : cells.length = xs.length * sz := by
  obtain ⟨css, rfl, h2, h3, _⟩ := h.all
  rw [flatten_len h3, h2]
theorem Recs.get (h : Recs R sz w xs cells) {j : Nat} {x : α} (hx : xs[j]? = some x) : ∃ cs, cs.length = sz ∧ R w x cs ∧ ∀ k u, cs[k]? = some u → cells[j * sz + k]? = some u := by
  obtain ⟨css, rfl, h2, h3, h4⟩ := h.all
  have hj : j < css.length := by rw [h2]; exact (List.getElem?_eq_some_iff.1 hx).1
  exact ⟨css[j], h3 _ (List.getElem_mem hj), h4 j x _ hx (List.getElem?_eq_getElem hj), fun k u hk => flatten_get h3 j _ (List.getElem?_eq_getElem hj) k u hk⟩
theorem Recs.snoc (h : Recs R sz w xs cells) {x : α} {cs : List Value} (hl : cs.length = sz) (hR : R w x cs) : Recs R sz w (xs ++ [x]) (cells ++ cs) := by
  obtain ⟨css, rfl, h2, h3⟩ := h
  refine ⟨css ++ [cs], by simp, by simp [h2], fun j y ds hy hd => ?_⟩
  by_cases hj : j < xs.length
  · rw [List.getElem?_append_left hj] at hy
    rw [List.getElem?_append_left (by omega)] at hd
    exact h3 j y ds hy hd
  · rw [List.getElem?_append_right (by omega)] at hy
    rw [List.getElem?_append_right (by omega), h2] at hd
    obtain h0 : j - xs.length = 0 := by
      have := (List.getElem?_eq_some_iff.1 hy).1
      simp at this
      omega
    rw [h0] at hy hd
    simp only [List.getElem?_cons_zero, Option.some.injEq] at hy hd
    subst hy hd
    exact ⟨hl, hR⟩
theorem Recs.imp {R' : World → α → List Value → Prop} {w' : World} (h : Recs R sz w xs cells) (hi : ∀ (j : Nat) (x : α) (cs : List Value), xs[j]? = some x → R w x cs → R' w' x cs) : Recs R' sz w' xs cells := by
  obtain ⟨css, h1, h2, h3⟩ := h
  exact ⟨css, h1, h2, fun j x cs hx hc => ⟨(h3 j x cs hx hc).1, hi j x cs hx (h3 j x cs hx hc).2⟩⟩
theorem Recs.take (h : Recs R sz w xs cells) (n : Nat) : Recs R sz w (xs.take n) (cells.take (n * sz)) := by
  obtain ⟨css, rfl, h2, h3, h4⟩ := h.all
  refine ⟨css.take n, ?_, by simp [h2], fun j x cs hx hc => ?_⟩
  · clear h2 h4 h
    induction css generalizing n with
    | nil => simp
    | cons c l ih =>
      cases n with
      | zero => simp
      | succ n =>
        have h5 := h3 c List.mem_cons_self
        simp only [List.take_succ_cons, List.flatten_cons]
        rw [List.take_append, ← ih n (fun c hc => h3 c (List.mem_cons_of_mem _ hc)), h5, List.take_of_length_le (by rw [h5, Nat.add_mul]; omega), show (n + 1) * sz - sz = n * sz from by rw [Nat.add_mul]; omega]
  · rw [List.getElem?_take] at hx hc
    split at hx
    · rename_i hjn
      rw [if_pos hjn] at hc
      exact ⟨h3 cs (List.mem_of_getElem? hc), h4 j x cs hx hc⟩
    · cases hx
theorem Recs.drop (h : Recs R sz w xs cells) (n : Nat) : Recs R sz w (xs.drop n) (cells.drop (n * sz)) := by
  obtain ⟨css, rfl, h2, h3, h4⟩ := h.all
  refine ⟨css.drop n, ?_, by simp [h2], fun j x cs hx hc => ?_⟩
  · clear h2 h4 h
    induction css generalizing n with
    | nil => simp
    | cons c l ih =>
      cases n with
      | zero => simp
      | succ n =>
        have h5 := h3 c List.mem_cons_self
        simp only [List.drop_succ_cons, List.flatten_cons]
        rw [List.drop_append, ← ih n (fun c hc => h3 c (List.mem_cons_of_mem _ hc)), h5, List.drop_of_length_le (by rw [h5, Nat.add_mul]; omega), show (n + 1) * sz - sz = n * sz from by rw [Nat.add_mul]; omega]
        simp
  · rw [List.getElem?_drop] at hx hc
    exact ⟨h3 cs (List.mem_of_getElem? hc), h4 _ x cs hx hc⟩
theorem Recs.append {ys : List α} {more : List Value} (h : Recs R sz w xs cells) (h' : Recs R sz w ys more) : Recs R sz w (xs ++ ys) (cells ++ more) := by
  obtain ⟨css, rfl, h2, h3⟩ := h
  obtain ⟨dss, rfl, k2, k3⟩ := h'
  refine ⟨css ++ dss, by simp, by simp [h2, k2], fun j y ds hy hd => ?_⟩
  by_cases hj : j < xs.length
  · rw [List.getElem?_append_left hj] at hy
    rw [List.getElem?_append_left (by omega)] at hd
    exact h3 j y ds hy hd
  · rw [List.getElem?_append_right (by omega)] at hy
    rw [List.getElem?_append_right (by omega), h2] at hd
    exact k3 _ y ds hy hd
end
/-- 's[lo:]', the new address under one name. -/
theorem slice_from {P : Program} (t : TypeId) (size : Nat) (ht : P.underlying t = some (.slice (P.elem t))) (hs : (P.info? (P.elem t)).map (·.size) = some size) (ad : Addr) (n c k : Nat) (lo : Int) (hlo : lo = (k : Int)) (hk : k ≤ n) :
    ∃ X, (∀ W : World, (Instr.slice t (.slice (some ad) n c) (some (.int .i64 lo)) none none).run P W = .ok (.slice (some X) (n - k) (c - k)) W) ∧ X = if c = k then ad else ad.add (k * size) := by
  refine ⟨_, fun W => ?_, rfl⟩
  subst hlo
  obtain ⟨i, hi, hz⟩ := Option.map_eq_some_iff.1 hs
  rw [run_slice_l W t (some ad) n c ht .i64 (k : Int) (by omega) (by omega)]
  simp only [sizeOf, typeInfo]
  simp [hi, hz, Result.andThen, sliced, Int.toNat_natCast]
  split <;> simp_all
theorem cell_far (w : World) (p a : Addr) (v : Value) (h : p.block ≠ a.block) : (w.setCell p v).cell? a = w.cell? a :=
  World.cell?_of_block (Below.heap_setCell w p v a.block (fun e => h e.symm))
/-- A variable in a block of its own. -/
def Box (w : World) (B : Nat) (t : TypeId) (v : Value) : Prop := w.heap[B]? = some (.cells #[v] t (0, 0))
theorem Box.set {w : World} {B : Nat} {t : TypeId} {v : Value} (h : Box w B t v) (u : Value) : Box (w.setCell ⟨B, 0, none⟩ u) B t u := by
  unfold Box at *
  simp [World.setCell, Array.getElem?_modify, h]
theorem Box.cell {w : World} {B : Nat} {t : TypeId} {v : Value} (h : Box w B t v) : w.cell? ⟨B, 0, none⟩ = some v := by
  unfold World.cell? Box at *
  simp [h]
theorem Box.frozen {w : World} {B : Nat} {t : TypeId} {v : Value} (h : Box w B t v) : w.frozen? ⟨B, 0, none⟩ = false := by
  unfold World.frozen? Box at *
  simp [h]
theorem Box.lt {w : World} {B : Nat} {t : TypeId} {v : Value} (h : Box w B t v) : B < w.heap.size := (Array.getElem?_eq_some_iff.1 h).1
theorem Box.new (w : World) (t : TypeId) (v : Value) : Box (w.alloc (.cells #[v] t)) w.heap.size t v := heap_alloc_new w _
theorem Box.below {w w1 : World} {B n : Nat} {t : TypeId} {v : Value} (h : Box w B t v) (hb : Below n w w1) (hn : B < n) : Box w1 B t v := (hb.block B hn).trans h
theorem Box.far {w : World} {B : Nat} {t : TypeId} {v : Value} (h : Box w B t v) (p : Addr) (u : Value) (hp : p.block ≠ B) : Box (w.setCell p u) B t v := (Below.heap_setCell w p u B (fun e => hp e.symm)).trans h
end Go.Proofs.YtoongmoajnedlaaGreat
