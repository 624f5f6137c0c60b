/-
  Calls in a row; numbers' comparison.
-/
import Derived.Test.YtbnbeailbhnbdaaCall1
import Derived.Test.YtbnbeailbhnbdaaCalmO
set_option linter.unusedVariables false
set_option linter.unusedSimpArgs false
namespace Go.Proofs.Ytbnbeailbhnbdaa
open Go.RowKit

def CallsAt (g : Nat) (cs : List CV) (W : World) : Prop := ∀ k c, cs[k]? = some c → W.rangeAt g (k * 12) c.cells.toList
theorem CallsAt.below {g : Nat} {cs : List CV} {W W' : World} (h : CallsAt g cs W) (hb : Below W.heap.size W W') : CallsAt g cs W' := fun k c hk j v hj => (hb.cell (World.block_lt_of_cell? _ _ (h k c hk j v hj))).trans (h k c hk j v hj)
theorem CallsAt.out {g : Nat} {cs : List CV} {W W' : World} {S : Nat → Prop} (h : CallsAt g cs W) (hb : Outside S W W') (hg : ¬ S g) : CallsAt g cs W' := fun k c hk j v hj => by
  have h1 := h k c hk j v hj
  have hl := World.block_lt_of_cell? _ _ h1
  have h2 := hb.block g hl hg
  rw [← h1]
  simp only [World.cell?, h2]
def funV (f : FuncId) : Value := .func (.func f) #[] #[]
set_option maxHeartbeats 2000000 in
theorem num1_any {p1 p2 g n cp : Nat} {cs : List CV} (w : World) (h1 : w.cell? ⟨p1, 0, none⟩ = some (.func (.func 47) #[] #[])) (h2 : w.cell? ⟨p2, 0, none⟩ = some (.slice (some ⟨g, 0, none⟩) n cp)) (h3 : CallsAt g cs w) (hn : n ≤ 140737488355328) (x y : Nat) (hx : x < n) (hy : y < n) (c d : CV) (hc : cs[x]? = some c) (hd : cs[y]? = some d) :
    Calls Try.prog 53 #[.int .i64 (x : Int), .int .i64 (y : Int), .pointer (some ⟨p1, 0, none⟩), .pointer (some ⟨p2, 0, none⟩)] w (RetInt (byR c d) w) := by
  have hall : ∀ W', Below w.heap.size w W' → W'.cell? ⟨p1, 0, none⟩ = some (.func (.func 47) #[] #[]) ∧ W'.cell? ⟨p2, 0, none⟩ = some (.slice (some ⟨g, 0, none⟩) n cp) ∧ W'.rangeAt g (x * 12) c.cells.toList ∧ W'.rangeAt g (y * 12) d.cells.toList := by
    intro W' hb
    exact ⟨(hb.cell (World.block_lt_of_cell? _ _ h1)).trans h1, (hb.cell (World.block_lt_of_cell? _ _ h2)).trans h2, h3.below hb x c hc, h3.below hb y d hd⟩
  have HL := Lib.hid hall
  clear hall h1 h2 h3 hc hd
  have hxi : (x : Int) < (n : Int) := by omega
  have hyi : (y : Int) < (n : Int) := by omega
  go_enter Try.func53, Try.ntmps53
  go_wp2
  refine wp_region_calm (Later w) (by kernel_rfl) (by kernel_rfl) (Below.refl _ _).drew (fun hne => ?_)
  have c0 := fun p : InS (Later w) => (HL.out p.w p.h).1
  have c1 := fun p : InS (Later w) => (HL.out p.w p.h).2.1
  have c2 := fun p : InS (Later w) => (HL.out p.w p.h).2.2.1
  have c3 := fun p : InS (Later w) => (HL.out p.w p.h).2.2.2
  repeat (first
    | (go_big_quiet_step (first
      | (go_at_call 47; exact calm_of (byR_any c d _) (by rintro e w' ⟨rfl, hb⟩; exact ⟨rfl, later_step (InS.h _) hb⟩))
      | fail))
    | (go_big_quiet_want; refine quiet_load_mid _ _ rfl _ _ rfl _ _ (by rintro _ ⟨p, rfl⟩; exact c2 p) Try.underlying62 rfl (by kernel_rfl) ?_; go_big_quiet_on; simp only [Act.put, List.setIfInBounds_toArray, List.set_cons_zero, List.set_cons_succ])
    | (go_big_quiet_want; refine quiet_load_mid _ _ rfl _ _ rfl _ _ (by rintro _ ⟨p, rfl⟩; exact c3 p) Try.underlying62 rfl (by kernel_rfl) ?_; go_big_quiet_on; simp only [Act.put, List.setIfInBounds_toArray, List.set_cons_zero, List.set_cons_succ]))
  refine wpQuiet_nil ?_
  rintro _ ⟨p, rfl⟩
  go_wp2
  go_ret
  exact ⟨rfl, p.h⟩
end Go.Proofs.Ytbnbeailbhnbdaa
