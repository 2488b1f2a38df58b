/-
  Slices that are read, and appends to slices of the call's own, whatever their address.
-/
import Derived.WalkKit
import Derived.WalkLawsBesides
import Derived.Laws.AppendOwnNone
import Derived.Laws.CopyOwn
namespace Go.Proofs.Ytipdggjalhjpnab
open Go.RowKit
set_option linter.unusedSimpArgs false
set_option linter.unusedVariables false

/-- The slice value v reads, in w, as n elements whose cells are cs. -/
def Rd (w : World) (size : Nat) (v : Value) (n : Nat) (cs : List Value) : Prop :=
  cs.length = n * size ∧ ∃ a cap, v = .slice a n cap ∧ n ≤ cap ∧ cap ≤ maxLen ∧ (a = none → n = 0 ∧ cap = 0) ∧
    (0 < n * size → ∃ b off, a = some ⟨b, off, none⟩ ∧ b < w.heap.size ∧ ∀ j u, cs[j]? = some u → w.cell? ⟨b, off + j, none⟩ = some u)

theorem Rd.keep {w w' : World} {size n : Nat} {v : Value} {cs : List Value} (h : Rd w size v n cs) (hb : Below w.heap.size w w') : Rd w' size v n cs := by
  obtain ⟨hl, a, cap, rfl, h1, h2, h3, h4⟩ := h
  refine ⟨hl, a, cap, rfl, h1, h2, h3, fun h => ?_⟩
  obtain ⟨b, off, rfl, hbl, hc⟩ := h4 h
  exact ⟨b, off, rfl, Nat.lt_of_lt_of_le hbl hb.size, fun j u hj => (hb.cell (by exact hbl)).trans (hc j u hj)⟩

theorem Rd.of_own {w : World} {base : Nat} {e : TypeId} {size : Nat} {v : Value} {n : Nat} {xs : List Value} (h : w.ownsRow base e size v n xs) : Rd w size v n xs := by
  refine ⟨h.1, ?_⟩
  rcases h.2 with ⟨rfl, rfl⟩ | ⟨g, cap, cur, rfl, hb, hg, hn, hc, hs, ht⟩
  · exact ⟨none, 0, rfl, Nat.le_refl _, Nat.zero_le _, fun _ => ⟨rfl, rfl⟩, fun h => by simp at h⟩
  · refine ⟨some ⟨g, 0, none⟩, cap, rfl, hn, hc, (fun h => by cases h), fun _ => ⟨g, 0, rfl, (Array.getElem?_eq_some_iff.1 hg).1, fun j u hj => ?_⟩⟩
    have := h.cells (g := g) (by simp [Value.ownBlock]) j u hj
    rw [Addr.add_lit] at this
    exact this

theorem below_own {B : Nat} {w w' : World} {base : Nat} {e : TypeId} {size : Nat} {v : Value} {n : Nat} {xs : List Value} (h : w.ownsRow base e size v n xs) (hb : Below B w w') (hB : w.heap.size ≤ B) : w'.ownsRow base e size v n xs := by
  refine h.kept (row := none) ⟨hb.os, hb.tape, hb.output, hb.size, fun k hk _ => hb.block k (by omega)⟩ ?_
  cases hv : v.ownBlock <;> simp

/-- 'append(s, x...)', s the call's own, x any slice that reads. -/
theorem wpList_app {P : Program} (w : World) {ops : Array Oper} {rest : List Oper} {o : Oper} {a : Act} {Q : Exit → Act → World → Prop} (hgd : o.guard = none) (s x : Operand) (t : TypeId)
    (ho : o.op = .call { callee := .builtin .append, args := #[s, x], argTypes := #[t, t] })
    (base : Nat) (e : TypeId) (z : Value) (size bytes : Nat) (ht : P.underlying t = some (.slice e)) (hi : (P.info? e).map (fun i => (i.zero, i.size, i.bytes)) = some (some z, size, bytes))
    (hzs : z.cells.size = size) (hsz : 0 < size)
    (v xv : Value) (n m : Nat) (xs news : List Value) (hs : a.eval s = v) (hx : a.eval x = xv) (hown : w.ownsRow base e size v n xs) (hr : Rd w size xv m news) (h1 : ∀ u ∈ news, u.oneCell' = true)
    (hbytes : (n + m) * bytes ≤ 140737488355328) (h63 : n + m ≤ maxLen) (hbase : base ≤ w.heap.size)
    (h : ∀ v' w', w'.ownsRow base e size v' (n + m) (xs ++ news) → w.grownBy w' v.ownBlock → wpList P ops Q rest (a.put o.dst v') w') : wpList P ops Q (o :: rest) a w := by
  obtain ⟨i, hi, hz0, hz1, hz2⟩ := info_parts hi
  obtain ⟨hl, ad, cap, rfl, hc1, hc2, hnone, hpos⟩ := hr
  cases ad with
  | none =>
    obtain ⟨rfl, rfl⟩ := hnone rfl
    have : news = [] := List.eq_nil_of_length_eq_zero (by simpa using hl)
    subst this
    exact wpList_append_own_none hgd s x t ho base e i size ht hi v n xs hs hown hx (h v w (by simpa using hown) (World.grownBy.refl _ _))
  | some ad =>
    refine wpList_append_own w hgd s x t ho base e i z size bytes ht hi hz0 hz1 hz2 hzs hsz v n xs hs hown ad m cap news hx hl ?_ h1 h63 hbytes hbase (fun v' w' h1 h2 _ => h v' w' h1 h2)
    intro j u hj
    have hm : 0 < m * size := by
      have := (List.getElem?_eq_some_iff.1 hj).1
      omega
    obtain ⟨b, off, e, _, hc⟩ := hpos hm
    obtain rfl := Option.some.inj e
    rw [Addr.add_lit]
    exact hc j u hj
/-- A slice of one element just laid. -/
theorem rd_one (w : World) (x : Value) (e : TypeId) : Rd (w.alloc (.cells #[x] e)) 1 (.slice (some ⟨w.heap.size, 0, none⟩) 1 1) 1 [x] := by
  refine ⟨rfl, _, _, rfl, Nat.le_refl _, by decide, (fun h => by cases h), fun _ => ⟨w.heap.size, 0, rfl, by simp, fun j u hj => ?_⟩⟩
  have hjl := (List.getElem?_eq_some_iff.1 hj).1
  obtain rfl : j = 0 := by simpa using hjl
  obtain rfl : x = u := by simpa using hj
  rw [World.cell?_alloc_at _ _ _ _ rfl]; rfl
/-- A slice just laid. -/
theorem rd_new (w : World) (cs : Array Value) (e : TypeId) (n : Nat) (hn : cs.size = n) (hm : n ≤ maxLen) : Rd (w.alloc (.cells cs e)) 1 (.slice (some ⟨w.heap.size, 0, none⟩) n n) n cs.toList := by
  refine ⟨by simp [hn], _, _, rfl, Nat.le_refl _, hm, (fun h => by cases h), fun _ => ⟨w.heap.size, 0, rfl, by simp, fun j u hj => ?_⟩⟩
  rw [World.cell?_alloc_at _ _ _ _ rfl]
  simpa using hj
theorem own_succ {W : World} {base : Nat} {e : TypeId} {size : Nat} {v : Value} {k : Nat} {xs : List Value} (h : W.ownsRow base e size v k xs) (hk : 0 < k) : ∃ g cap, v = .slice (some ⟨g, 0, none⟩) k cap ∧ base ≤ g ∧ g < W.heap.size ∧ k ≤ cap ∧ cap ≤ maxLen := by
  rcases h.2 with ⟨_, h0⟩ | ⟨g, cap, cur, rfl, hb, hg, hn, hc, _⟩
  · omega
  · exact ⟨g, cap, rfl, hb, (Array.getElem?_eq_some_iff.1 hg).1, hn, hc⟩
/-- A piece of a slice that reads. -/
theorem Rd.piece {w : World} {size : Nat} {b off n cap : Nat} {cs : List Value} (h : Rd w size (.slice (some ⟨b, off, none⟩) n cap) n cs) (lo m cap' : Nat) (ds : List Value) (h1 : m ≤ cap') (h2 : cap' ≤ maxLen) (hle : lo + m ≤ n)
    (hds : ds = (cs.drop (lo * size)).take (m * size)) : Rd w size (.slice (some ⟨b, off + lo * size, none⟩) m cap') m ds := by
  obtain ⟨hl, a', cap2, e, hc1, hc2, hnone, hpos⟩ := h
  obtain ⟨rfl, rfl⟩ : (some ⟨b, off, none⟩ : Option Addr) = a' ∧ cap = cap2 := by simpa using e
  have hm : lo * size + m * size ≤ n * size := by rw [← Nat.add_mul]; exact Nat.mul_le_mul_right _ hle
  refine ⟨by rw [hds]; simp; omega, _, _, rfl, h1, h2, (fun h => by cases h), fun hp => ?_⟩
  obtain ⟨b', off', e', hb, hc⟩ := hpos (by omega)
  obtain ⟨rfl, rfl⟩ : b = b' ∧ off = off' := by simpa using e'
  refine ⟨b, off + lo * size, rfl, hb, fun j u hj => ?_⟩
  rw [hds, List.getElem?_take] at hj
  split at hj
  · rw [List.getElem?_drop] at hj
    rw [Nat.add_assoc]
    exact hc _ _ hj
  · cases hj
theorem setRow_alloc (w : World) (cur cs : Array Value) (e : TypeId) (f : Nat × Nat) : (w.alloc (.cells cur e f)).setRow w.heap.size cs = w.alloc (.cells cs e f) := by
  show ({ w with heap := (w.heap.push (.cells cur e f)).modify w.heap.size _ } : World) = { w with heap := w.heap.push (.cells cs e f) }
  congr 1
  apply Array.ext_getElem?
  intro i
  rw [Array.getElem?_modify, Array.getElem?_push, Array.getElem?_push]
  by_cases h : i = w.heap.size
  · subst h; simp
  · simp [h, Ne.symm h]

/-- 'copy' of a slice that reads into a block just laid. -/
theorem run_copy_fresh {P : Program} (w : World) (t ty elem : TypeId) (n dCap cap : Nat) (a : Option Addr) (cur : Array Value) (cs : List Value)
    (hu : P.underlying t = some (.slice elem)) (hs : (P.info? elem).map (·.size) = some 1) (hr : Rd w 1 (.slice a n cap) n cs) (hn : n ≤ cur.size) (h1 : ∀ v ∈ cs, v.oneCell' = true) :
    (Builtin.copy_ #[t, t] ty #[.slice (some ⟨w.heap.size, 0, none⟩) n dCap, .slice a n cap]).run P (w.alloc (.cells cur elem)) =
      .ok (.int .i64 (n : Int)) (w.alloc (.cells (cs ++ cur.toList.drop n).toArray elem)) := by
  obtain ⟨hl, a', cap', e, hc1, hc2, hnone, hpos⟩ := hr
  obtain ⟨rfl, rfl⟩ : a = a' ∧ cap = cap' := by simpa using e
  have hl' : cs.length = n := by simpa using hl
  cases a with
  | none =>
    obtain ⟨rfl, rfl⟩ := hnone rfl
    obtain rfl : cs = [] := List.eq_nil_of_length_eq_zero hl'
    rw [run_copy_nil (P := P) _ t t ty elem _ _ _ hu (by rw [hs]; rfl)]
    simp [goInt]
  | some ad =>
    have := run_copy_row (P := P) (w.alloc (.cells cur elem)) t t ty elem w.heap.size 0 n dCap ad n cap cur elem cs hu hs (heap_alloc_new w _) (by rw [hl']; simp) (by
      intro j v hj
      have hm : 0 < n * 1 := by
        have := (List.getElem?_eq_some_iff.1 hj).1
        omega
      obtain ⟨b, off, e, hb, hc⟩ := hpos hm
      obtain rfl := Option.some.inj e
      rw [Addr.add_lit, World.cell?_alloc_past _ _ _ hb]
      exact hc j v hj) (by omega) h1
    rw [this, setRow_alloc]
    simp [goInt, hl']
theorem rd_lit {w : World} {a : Option Addr} {n cap : Nat} {cs : List Value} (h : Rd w 1 (.slice a n cap) n cs) : n ≤ cap ∧ cap ≤ maxLen := by
  obtain ⟨hl, a', cap', e, hc1, hc2, _⟩ := h
  obtain ⟨rfl, rfl⟩ : a = a' ∧ cap = cap' := by simpa using e
  exact ⟨hc1, hc2⟩
theorem rd_slice {w : World} {size n : Nat} {v : Value} {cs : List Value} (h : Rd w size v n cs) : ∃ a cap, v = .slice a n cap := by
  obtain ⟨_, a, cap, e, _⟩ := h; exact ⟨a, cap, e⟩

theorem own_base {w : World} {base base' : Nat} {e : TypeId} {size : Nat} {v : Value} {n : Nat} {xs : List Value} (h : w.ownsRow base e size v n xs) (hb : base' ≤ base) : w.ownsRow base' e size v n xs := by
  refine ⟨h.1, ?_⟩
  rcases h.2 with hn | ⟨g, cap, cur, h1, h2, rest⟩
  · exact .inl hn
  · exact .inr ⟨g, cap, cur, h1, Nat.le_trans hb h2, rest⟩

end Go.Proofs.Ytipdggjalhjpnab
