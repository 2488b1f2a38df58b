/-
  A whole array out of, and into, a block, whatever the world.
-/
import Derived.Test.YtipdggjalhjpnabMem
import Derived.Deep.WholeRow
import Derived.Laws.ResultCell
namespace Go.Proofs.Ytipdggjalhjpnab
open Go.RowKit
set_option linter.unusedSimpArgs false
set_option linter.unusedVariables false

theorem wpList_load_row {P : Program} {w : World} {ops : Array Oper} {rest : List Oper} {d : Option Nat} {p : Operand} {t ty : TypeId} {ps : String} {af : Array Edge} {a : Act} {Q : Exit → Act → World → Prop}
    (g : Nat) (cs : Array Value) (n : Nat) (e : TypeId) (hp : a.eval p = .pointer (some ⟨g, 0, none⟩)) (hu : P.underlying t = some (.array n e)) (hi : (P.info? t).map (·.size) = some cs.size)
    (tt : TypeId) (fr : Nat × Nat) (hg : w.heap[g]? = some (.cells cs tt fr))
    (h : wpList P ops Q rest (a.put d (.agg cs)) w) : wpList P ops Q ({ dst := d, op := .load t p, type := ty, pos := ps, after := af, guard := none } :: rest) a w := by
  refine wpList_plain rfl fun K hK => ?_
  have hrun := run_loadVar_row (P := P) w g tt t cs fr _ hg hu rfl hi
  unfold Oper.wp
  simp [execOp, hp, Instr.loadAt, Instr.sureAddr, hrun, Result.andThen]
  exact hK _ _ h
theorem wpList_store_row {P : Program} {w : World} {ops : Array Oper} {rest : List Oper} {p x : Operand} {t ty : TypeId} {ps : String} {af : Array Edge} {a : Act} {Q : Exit → Act → World → Prop}
    (g : Nat) (old cs : Array Value) (hp : a.eval p = .pointer (some ⟨g, 0, none⟩)) (hx : a.eval x = .agg cs) (hi : (P.info? t).map (·.size) = some cs.size)
    (tt : TypeId) (hg : w.heap[g]? = some (.cells old tt (0, 0))) (ho : old.size = cs.size) (h1 : cs.all (·.oneCell') = true)
    (h : wpList P ops Q rest a (w.setRow g cs)) : wpList P ops Q ({ dst := none, op := .store t p x, type := ty, pos := ps, after := af, guard := none } :: rest) a w := by
  refine wpList_plain rfl fun K hK => ?_
  have hrun := run_storeVar_row (P := P) w g tt t old cs hg hi ho h1
  unfold Oper.wp
  simp [execOp, hp, hx, Instr.storeAt, Instr.sureAddr, hrun, Result.andThen]
  exact hK _ _ h
theorem wpList_store_new {P : Program} {W : World} {ops : Array Oper} {rest : List Oper} {p x : Operand} {t ty tt : TypeId} {ps : String} {af : Array Edge} {a : Act} {Q : Exit → Act → World → Prop}
    (old cs : Array Value) (hp : a.eval p = .pointer (some ⟨W.heap.size, 0, none⟩)) (hx : a.eval x = .agg cs) (hi : (P.info? t).map (·.size) = some cs.size)
    (ho : old.size = cs.size) (h1 : cs.all (·.oneCell') = true)
    (h : wpList P ops Q rest a (W.alloc (.cells cs tt))) : wpList P ops Q ({ dst := none, op := .store t p x, type := ty, pos := ps, after := af, guard := none } :: rest) a (W.alloc (.cells old tt)) :=
  wpList_store_row W.heap.size old cs hp hx hi tt (heap_alloc_new W _) ho h1 (by rw [setRow_alloc]; exact h)
theorem ret_cell_tmp {P : Program} {fn : Func} {R : Ending → World → Prop} {a : Act} {w : World} {p u : Tmp} {ty : TypeId} (g : Nat) (cs : Array Value) (n : Nat) (e : TypeId) (v : Value) (h : fn.results = #[.cell p ty, .tmp u])
    (hp : a.tmps.getD p undef = .pointer (some ⟨g, 0, none⟩)) (hv : a.tmps.getD u undef = v) (hu : P.underlying ty = some (.array n e)) (hi : (P.info? ty).map (·.size) = some cs.size)
    (tt : TypeId) (fr : Nat × Nat) (hg : w.heap[g]? = some (.cells cs tt fr)) (hd : a.defers = []) (hR : R (.returned (.tuple #[.agg cs, v])) w) : bodyPost P fn R .ret a w := by
  refine bodyPost_ret (v := .tuple #[.agg cs, v]) ?_ hd hR
  have hrun := run_loadVar_row (P := P) w g tt ty cs fr _ hg hu rfl hi
  rw [results_cell_tmp h, hp, hv]
  simp [asAddr, hrun, Result.andThen]
theorem ret_cell {P : Program} {fn : Func} {R : Ending → World → Prop} {a : Act} {w : World} {p : Tmp} {ty : TypeId} (g : Nat) (cs : Array Value) (n : Nat) (e : TypeId) (h : fn.results = #[.cell p ty])
    (hp : a.tmps.getD p undef = .pointer (some ⟨g, 0, none⟩)) (hu : P.underlying ty = some (.array n e)) (hi : (P.info? ty).map (·.size) = some cs.size)
    (tt : TypeId) (fr : Nat × Nat) (hg : w.heap[g]? = some (.cells cs tt fr)) (hd : a.defers = []) (hR : R (.returned (.agg cs)) w) : bodyPost P fn R .ret a w := by
  refine bodyPost_ret (v := .agg cs) ?_ hd hR
  have hrun := run_loadVar_row (P := P) w g tt ty cs fr _ hg hu rfl hi
  simp only [results, h]
  have hp' : a.tmps[p]?.getD undef = .pointer (some ⟨g, 0, none⟩) := by rw [← hp]; simp
  simp [Sem.run_bind, Result.andThen, hp', asAddr, hrun]
theorem heap_alloc_at (w : World) (o : Obj) (k : Nat) : (w.alloc o).heap[k]? = if k = w.heap.size then some o else w.heap[k]? := by
  show (w.heap.push o)[k]? = _
  rw [Array.getElem?_push]
theorem own_ne {w : World} {base : Nat} {e t : TypeId} {v : Value} {n : Nat} {xs : List Value} (h : w.ownsRow base e 1 v n xs) {B : Nat} {cs : Array Value} {f : Nat × Nat} (hB : w.heap[B]? = some (.cells cs t f)) (het : e ≠ t) : v.ownBlock ≠ some B := by
  intro hv
  rcases h.2 with ⟨rfl, _⟩ | ⟨g, cap, cur, rfl, _, hg, _⟩
  · cases hv
  · obtain rfl : g = B := by simpa [Value.ownBlock] using hv
    rw [hB] at hg
    simp at hg
    exact het hg.2.1.symm

end Go.Proofs.Ytipdggjalhjpnab
