/-
  What the rows of this seat share: topologies, edges, lists of published ids, of seen ids and of events that came in.
-/
import Derived.Test.YtipdggjalhjpnabRows
import Derived.Test.YtipdggjalhjpnabDraw
import Derived.ProofKit
import Derived.OpenShut
import Derived.SizedLaws
import Derived.Deep.DeepHandedRow
import Derived.Deep.SlicePairs
import Derived.Lib.SmallJoins
namespace Go.Proofs.Ytipdggjalhjpnab
open Go.ChangeShapes Go.WideShapes Go.ChangeAt Go.RowKit
set_option linter.unusedSimpArgs false
set_option linter.unusedVariables false

theorem own : ownKnob Try.prog.godebug = none := by kernel_rfl
theorem laidOut : laidOutB Try.prog = true := by kernel_rfl
theorem bd_u64 {x : Int} (h : (Lit.int .u64 x).wf = true) : 0 ≤ x ∧ x ≤ 18446744073709551615 := by simpa [Lit.wf, IntKind.min, IntKind.max, IntKind.signed, IntKind.bits] using h
theorem bd_i64 {x : Int} (h : (Lit.int .i64 x).wf = true) : -9223372036854775808 ≤ x ∧ x ≤ 9223372036854775807 := by simpa [Lit.wf, IntKind.min, IntKind.max, IntKind.signed, IntKind.bits] using h

theorem list_of {α : Type} {P : Nat → α → Prop} : ∀ n, (∀ i, i < n → ∃ x, P i x) → ∃ xs : List α, xs.length = n ∧ ∀ i x, xs[i]? = some x → P i x
  | 0, _ => ⟨[], rfl, fun i x h => by simp at h⟩
  | n + 1, h => by
    obtain ⟨xs, hl, hx⟩ := list_of n (fun i hi => h i (by omega))
    obtain ⟨y, hy⟩ := h n (by omega)
    refine ⟨xs ++ [y], by simp [hl], fun i x hi => ?_⟩
    by_cases hin : i < n
    · rw [List.getElem?_append_left (by omega)] at hi
      exact hx i x hi
    · have hlt := (List.getElem?_eq_some_iff.1 hi).1
      simp [hl] at hlt
      obtain rfl : i = n := by omega
      rw [List.getElem?_append_right (by omega)] at hi
      simp [hl] at hi
      subst hi
      exact hy
theorem flat_get {α β : Type} {f : α → List β} {size : Nat} (hf : ∀ x, (f x).length = size) (hp : 0 < size) : ∀ (xs : List α) (j : Nat) (u : β), (xs.flatMap f)[j]? = some u → ∃ x, xs[j / size]? = some x ∧ (f x)[j % size]? = some u
  | [], j, u, h => by simp at h
  | x :: xs, j, u, h => by
    rw [List.flatMap_cons] at h
    by_cases hj : j < size
    · rw [List.getElem?_append_left (by rw [hf]; exact hj)] at h
      exact ⟨x, by rw [Nat.div_eq_of_lt hj]; rfl, by rw [Nat.mod_eq_of_lt hj]; exact h⟩
    · rw [List.getElem?_append_right (by rw [hf]; omega), hf] at h
      obtain ⟨y, h1, h2⟩ := flat_get hf hp xs (j - size) u h
      have hd : j / size = (j - size) / size + 1 := by
        conv => lhs; rw [show j = (j - size) + size by omega]
        exact Nat.add_div_right _ hp
      have hm : j % size = (j - size) % size := by
        conv => lhs; rw [show j = (j - size) + size by omega]
        exact Nat.add_mod_right _ _
      exact ⟨y, by rw [hd]; simpa using h1, by rw [hm]; exact h2⟩
theorem flat_len {α β : Type} {f : α → List β} {size : Nat} (hf : ∀ x, (f x).length = size) : ∀ xs : List α, (xs.flatMap f).length = xs.length * size
  | [] => by simp
  | x :: xs => by rw [List.flatMap_cons, List.length_append, hf, flat_len hf xs, List.length_cons, Nat.add_mul]; omega
theorem no_spot {w : World} {a : Addr} {v : Value} (hc0 : w.cell? (a.add 0) = some v) : a.spot = none := by
  cases hsp : a.spot with
  | none => rfl
  | some s =>
    exfalso
    unfold World.cell? Addr.add at hc0
    split at hc0 <;> simp_all

/-- A slice of whatever elements that came in. -/
theorem open_rd {H : Type} {enc : TypeId × Value → H} {W : World} {fuel : Nat} {α : Type} (f : α → List Value) (ok : α → Prop) (size : Nat) (hpos : 0 < size) (hf : ∀ x, (f x).length = size)
    {t e : TypeId} {v : Value} {x : DataW H × List MemPlace} (ht : Try.prog.underlying t = some (.slice e)) (ce : Try.prog.cellsOf e = size)
    (hopen : ∀ n cs y, DataW.trod enc Try.prog W 0 (fun _ => true) true n e cs = some y → ∃ x, cs = f x ∧ ok x)
    (h : DataW.trod enc Try.prog W 0 (fun _ => true) true fuel t [v] = some x) :
    ∃ xs : List α, Rd W size v xs.length (xs.flatMap f) ∧ (∀ x ∈ xs, ok x) := by
  rcases Deep.open_slice ht h with ⟨hcs, _⟩ | ⟨a, len, cap, m, n, D, Pl, hcs, hb, hl, hm, hmm, rfl, hx⟩
  · obtain rfl : v = .slice none 0 0 := by simpa using hcs
    refine ⟨[], Rd.of_own (World.ownsRow_nil W 0 5 size), fun x hx => by simp at hx⟩
  · obtain rfl : v = .slice (some a) len cap := by simpa using hcs
    obtain rfl : m = cap := by simpa using hmm
    obtain ⟨xs, hlen, hP⟩ := list_of (P := fun i (x : α) => (∀ j, j < size → W.cell? ((a.add (i * size)).add j) = (f x)[j]?) ∧ ok x) len (fun i hi => by
      obtain ⟨cs', h1, h2⟩ := hx i (by omega)
      rw [ce] at h1
      obtain ⟨_, hlen, hcell⟩ := World.cells?_some h1
      obtain ⟨x, rfl, hok⟩ := hopen _ _ _ h2
      exact ⟨x, hcell, hok⟩)
    refine ⟨xs, ⟨flat_len hf xs, some a, m, by rw [hlen], by omega, hm, (fun h => by cases h), fun hp => ?_⟩, fun x hx => by
      obtain ⟨i, hi⟩ := List.mem_iff_getElem?.1 hx
      exact (hP i x hi).2⟩
    have hpl : 0 < xs.length := by
      cases xs with
      | nil => simp at hp
      | cons _ _ => simp
    obtain ⟨x0, hx0⟩ : ∃ x0, xs[0]? = some x0 := ⟨_, List.getElem?_eq_getElem hpl⟩
    have h0 := (hP 0 x0 hx0).1 0 hpos
    obtain ⟨u0, hu0⟩ : ∃ u0, (f x0)[0]? = some u0 := ⟨_, List.getElem?_eq_getElem (by rw [hf]; exact hpos)⟩
    rw [hu0] at h0
    have h0' : W.cell? (a.add 0) = some u0 := by simpa [Addr.add] using h0
    have hsp := no_spot h0'
    obtain ⟨b, off, sp⟩ := a
    obtain rfl : sp = none := hsp
    refine ⟨b, off, rfl, ?_, fun j u hj => ?_⟩
    · rw [Addr.add_lit] at h0'
      exact World.block_lt_of_cell? W _ h0'
    · obtain ⟨x, h1, h2⟩ := flat_get hf hpos xs j u hj
      have h3 := (hP _ x h1).1 (j % size) (Nat.mod_lt _ hpos)
      rw [h2, Addr.add_lit, Addr.add_lit] at h3
      rw [← h3]
      congr 2
      have := Nat.div_add_mod j size
      rw [Nat.mul_comm] at this
      omega

/-- An id that was published, an id at a site, an event. -/
structure Pub where
  origin : Int
  seq : Int
  fed : Bool
structure Sn where
  site : Int
  origin : Int
  seq : Int
structure Ev where
  site : Int
  queue : ByteArray
  origin : Int
  seq : Int
def Pub.cs (p : Pub) : List Value := [.int .i64 p.origin, .int .u64 p.seq, .bool p.fed]
def Sn.cs (p : Sn) : List Value := [.int .i64 p.site, .int .i64 p.origin, .int .u64 p.seq]
def Ev.cs (p : Ev) : List Value := [.int .i64 p.site, .string p.queue, .int .i64 p.origin, .int .u64 p.seq]
def Ev.ok (p : Ev) : Prop := p.queue.size ≤ maxLen
def edgeCs (e : Int × Int) : List Value := [.int .i64 e.1, .int .i64 e.2]

section
variable {H : Type} {enc : TypeId × Value → H} {W : World}
theorem cells3' : Try.prog.cellsOf 3 = 1 := by kernel_rfl
theorem cells4' : Try.prog.cellsOf 4 = 1 := by kernel_rfl
theorem cells9' : Try.prog.cellsOf 9 = 1 := by kernel_rfl
theorem cells49' : Try.prog.cellsOf 49 = 1 := by kernel_rfl
theorem cells41' : Try.prog.cellsOf 41 = 1 := by kernel_rfl
theorem cells51' : Try.prog.cellsOf 51 = 2 := by kernel_rfl
theorem cells53' : Try.prog.cellsOf 53 = 3 := by kernel_rfl
theorem cells62' : Try.prog.cellsOf 62 = 3 := by kernel_rfl
theorem cells70' : Try.prog.cellsOf 70 = 4 := by kernel_rfl
theorem cells39' : Try.prog.cellsOf 39 = 2 := by kernel_rfl
theorem cells24' : Try.prog.cellsOf 24 = 3 := by kernel_rfl
theorem cells22' : Try.prog.cellsOf 22 = 1 := by kernel_rfl
theorem cells43' : Try.prog.cellsOf 43 = 2 := by kernel_rfl
theorem cells44' : Try.prog.cellsOf 44 = 2 := by kernel_rfl

theorem el_edge (n : Nat) (cs : List Value) (y : DataW H × List MemPlace) (h : DataW.trod enc Try.prog W 0 (fun _ => true) true n 39 cs = some y) : ∃ e : Int × Int, cs = edgeCs e ∧ True := by
  obtain ⟨y0, y1, m, _, hl, h0, h1⟩ := trod_struct2 Try.underlying39 h
  rw [cells39'] at hl
  match cs, hl with
  | [c0, c1], _ =>
    rw [cells3'] at h0 h1
    obtain ⟨x, hx, _, _⟩ := DataW.trod_int Try.underlying3 h0
    obtain ⟨x2, hx2, _, _⟩ := DataW.trod_int Try.underlying3 h1
    simp at hx hx2
    exact ⟨(x, x2), by simp [edgeCs, hx, hx2], trivial⟩
theorem el_ident (n : Nat) (cs : List Value) (y : DataW H × List MemPlace) (h : DataW.trod enc Try.prog W 0 (fun _ => true) true n 51 cs = some y) : ∃ o s : Int, cs = [.int .i64 o, .int .u64 s] := by
  obtain ⟨y0, y1, m, _, hl, h0, h1⟩ := trod_struct2 Try.underlying51 h
  rw [cells51'] at hl
  match cs, hl with
  | [c0, c1], _ =>
    rw [cells3'] at h0
    rw [cells49'] at h1
    obtain ⟨x, hx, _, _⟩ := DataW.trod_int Try.underlying3 h0
    obtain ⟨x2, hx2, _, _⟩ := DataW.trod_int Try.underlying49 h1
    simp at hx hx2
    exact ⟨x, x2, by simp [hx, hx2]⟩
theorem el_pub (n : Nat) (cs : List Value) (y : DataW H × List MemPlace) (h : DataW.trod enc Try.prog W 0 (fun _ => true) true n 62 cs = some y) : ∃ p : Pub, cs = p.cs ∧ True := by
  obtain ⟨y0, y1, m, _, hl, h0, h1⟩ := trod_struct2 Try.underlying62 h
  rw [cells62'] at hl
  match cs, hl with
  | [c0, c1, c2], _ =>
    rw [cells51'] at h0
    rw [cells4'] at h1
    obtain ⟨o, s, hx⟩ := el_ident _ _ _ h0
    obtain ⟨x2, hx2, _⟩ := DataW.trod_bool Try.underlying4 h1
    simp at hx hx2
    exact ⟨⟨o, s, x2⟩, by simp [Pub.cs, hx, hx2], trivial⟩
theorem el_sn (n : Nat) (cs : List Value) (y : DataW H × List MemPlace) (h : DataW.trod enc Try.prog W 0 (fun _ => true) true n 53 cs = some y) : ∃ p : Sn, cs = p.cs ∧ True := by
  obtain ⟨y0, y1, m, _, hl, h0, h1⟩ := trod_struct2 Try.underlying53 h
  rw [cells53'] at hl
  match cs, hl with
  | [c0, c1, c2], _ =>
    rw [cells3'] at h0
    rw [cells51'] at h1
    obtain ⟨x, hx, _, _⟩ := DataW.trod_int Try.underlying3 h0
    obtain ⟨o, s, hx2⟩ := el_ident _ _ _ h1
    simp at hx hx2
    exact ⟨⟨x, o, s⟩, by simp [Sn.cs, hx, hx2], trivial⟩
theorem el_ev (n : Nat) (cs : List Value) (y : DataW H × List MemPlace) (h : DataW.trod enc Try.prog W 0 (fun _ => true) true n 70 cs = some y) : ∃ p : Ev, cs = p.cs ∧ p.ok := by
  obtain ⟨y0, y1, y2, m, _, hl, h0, h1, h2⟩ := Deep.trod_struct3 Try.underlying70 h
  rw [cells70'] at hl
  match cs, hl with
  | [c0, c1, c2, c3], _ =>
    rw [cells3'] at h0
    rw [cells9'] at h1
    rw [cells51'] at h2
    obtain ⟨x, hx, _, _⟩ := DataW.trod_int Try.underlying3 h0
    obtain ⟨q, hq, _, hqs⟩ := DataW.trod_string Try.underlying9 h1
    obtain ⟨o, s, hx2⟩ := el_ident _ _ _ h2
    simp at hx hx2 hq
    exact ⟨⟨x, q, o, s⟩, by simp [Ev.cs, hx, hx2, hq], hqs⟩
/-- A topology that came in. -/
theorem open_top {base : Nat} {v : Value} {d : DataW H} {p : List MemPlace} (hval : Value.okWide Try.prog W .any base 24 v) (h : DataW.Trod enc Try.prog W 0 (fun _ => true) true 24 v d p) :
    ∃ (S H : Int) (ev : Value) (es : List (Int × Int)), v = topV S ev H ∧ Rd W 2 ev es.length (edgeCells es) := by
  obtain ⟨cs, rfl, hsz⟩ := okWide_struct Try.underlying24 hval
  obtain ⟨n, h⟩ := h
  obtain ⟨y0, y1, y2, m, _, hl, h0, h1, h2⟩ := Deep.trod_struct3 Try.underlying24 h
  rw [cells24'] at hl
  have hl' : cs.toList.length = 3 := hl
  obtain ⟨c0, c1, c2, rfl⟩ : ∃ c0 c1 c2, cs = #[c0, c1, c2] := by
    obtain ⟨l⟩ := cs
    match l, hl' with
    | [c0, c1, c2], _ => exact ⟨c0, c1, c2, rfl⟩
  rw [cells3'] at h0 h2
  rw [cells22'] at h1
  obtain ⟨S, hS, _, _⟩ := DataW.trod_int Try.underlying3 h0
  obtain ⟨Hh, hH, _, _⟩ := DataW.trod_int Try.underlying3 h2
  simp [Value.cells] at hS hH h1
  obtain ⟨es, hr, _⟩ := open_rd edgeCs (fun _ => True) 2 (by omega) (fun _ => rfl) Try.underlying22 cells39' el_edge h1
  exact ⟨S, Hh, c1, es, by rw [hS, hH]; rfl, hr⟩
theorem open_edge {base : Nat} {v : Value} {d : DataW H} {p : List MemPlace} (hval : Value.okWide Try.prog W .any base 39 v) (h : DataW.Trod enc Try.prog W 0 (fun _ => true) true 39 v d p) :
    ∃ x y : Int, v = .agg #[.int .i64 x, .int .i64 y] := by
  obtain ⟨cs, rfl, hsz⟩ := okWide_struct Try.underlying39 hval
  obtain ⟨n, h⟩ := h
  obtain ⟨e, he, _⟩ := el_edge _ _ _ h
  refine ⟨e.1, e.2, ?_⟩
  obtain ⟨l⟩ := cs
  simpa [Value.cells, edgeCs] using he
theorem open_slice_of {α : Type} (f : α → List Value) (ok : α → Prop) (size : Nat) (hpos : 0 < size) (hf : ∀ x, (f x).length = size) {t e : TypeId} {base : Nat} {v : Value} {d : DataW H} {p : List MemPlace}
    (ht : Try.prog.underlying t = some (.slice e)) (ce : Try.prog.cellsOf e = size)
    (hopen : ∀ n cs y, DataW.trod enc Try.prog W 0 (fun _ => true) true n e cs = some y → ∃ x, cs = f x ∧ ok x)
    (hval : Value.okWide Try.prog W .any base t v) (h : DataW.Trod enc Try.prog W 0 (fun _ => true) true t v d p) :
    ∃ xs : List α, Rd W size v xs.length (xs.flatMap f) ∧ (∀ x ∈ xs, ok x) := by
  obtain ⟨a0, len, cap, rfl⟩ := okWide_slice ht hval
  obtain ⟨n, h⟩ := h
  exact open_rd f ok size hpos hf ht ce hopen h
theorem open_pub {base : Nat} {v : Value} {d : DataW H} {p : List MemPlace} (hval : Value.okWide Try.prog W .any base 62 v) (h : DataW.Trod enc Try.prog W 0 (fun _ => true) true 62 v d p) :
    ∃ q : Pub, v = .agg q.cs.toArray := by
  obtain ⟨cs, rfl, hsz⟩ := okWide_struct Try.underlying62 hval
  obtain ⟨n, h⟩ := h
  obtain ⟨e, he, _⟩ := el_pub _ _ _ h
  refine ⟨e, ?_⟩
  obtain ⟨l⟩ := cs
  simpa [Value.cells] using he
theorem open_ring {base : Nat} {v : Value} {d : DataW H} {p : List MemPlace} (hval : Value.okWide Try.prog W .any base 43 v) (h : DataW.Trod enc Try.prog W 0 (fun _ => true) true 43 v d p) :
    ∃ x y : Int, v = .agg #[.int .u64 x, .int .u64 y] ∧ 0 ≤ x ∧ x ≤ 18446744073709551615 ∧ 0 ≤ y ∧ y ≤ 18446744073709551615 := by
  obtain ⟨cs, rfl, hsz⟩ := okWide_struct Try.underlying43 hval
  obtain ⟨n, h⟩ := h
  obtain ⟨y0, y1, m, _, hl, h0, h1⟩ := trod_struct2 Try.underlying43 h
  rw [cells43'] at hl
  obtain ⟨l⟩ := cs
  match l, hl with
  | [c0, c1], _ =>
    rw [cells41'] at h0 h1
    obtain ⟨x, hx, _, w1⟩ := DataW.trod_int Try.underlying41 h0
    obtain ⟨x2, hx2, _, w2⟩ := DataW.trod_int Try.underlying41 h1
    simp [Value.cells] at hx hx2
    exact ⟨x, x2, by simp [hx, hx2], (bd_u64 w1).1, (bd_u64 w1).2, (bd_u64 w2).1, (bd_u64 w2).2⟩
theorem open_ends {base : Nat} {v : Value} {d : DataW H} {p : List MemPlace} (hval : Value.okWide Try.prog W .any base 44 v) (h : DataW.Trod enc Try.prog W 0 (fun _ => true) true 44 v d p) :
    ∃ x y : Int, v = .agg #[.int .u64 x, .int .u64 y] ∧ 0 ≤ x ∧ x ≤ 18446744073709551615 ∧ 0 ≤ y ∧ y ≤ 18446744073709551615 := by
  obtain ⟨n, h⟩ := h
  obtain ⟨xs, m, _, _, hl, hxl, hf⟩ := DataW.trod_array Try.underlying44 h
  rw [cells44'] at hl
  obtain ⟨cs, rfl⟩ : ∃ cs, v = .agg cs := by
    cases v with
    | agg cs => exact ⟨cs, rfl⟩
    | _ => simp [Value.cells] at hl
  obtain ⟨l⟩ := cs
  match l, hl with
  | [c0, c1], _ =>
    have h0 := hf 0 (by omega)
    have h1 := hf 1 (by omega)
    rw [cells41'] at h0 h1
    rw [List.getElem?_eq_getElem (by omega)] at h0 h1
    obtain ⟨x, hx, _, w1⟩ := DataW.trod_int Try.underlying41 h0
    obtain ⟨x2, hx2, _, w2⟩ := DataW.trod_int Try.underlying41 h1
    simp [Value.cells] at hx hx2
    exact ⟨x, x2, by simp [hx, hx2], (bd_u64 w1).1, (bd_u64 w1).2, (bd_u64 w2).1, (bd_u64 w2).2⟩
end
end Go.Proofs.Ytipdggjalhjpnab
