/-
  Sets: a map to bools that the call made, told by the list of its keys.
-/
import Derived.Test.YtipdggjalhjpnabPlan6
import Derived.Maps.Own
import Derived.DeepKeys3
namespace Go.Proofs.Ytipdggjalhjpnab
open Go.RowKit Go.ChangeMaps Go.MapKept Go.WideMaps
set_option linter.unusedSimpArgs false
set_option linter.unusedVariables false

/-- What a set needs of its keys: which values they are, and that they are compared without a stop. -/
structure SetKey (P : Program) (k : TypeId) (K : Value → Prop) : Prop where
  check : ∀ (w : World) (em : Bool) {v : Value}, K v → (Instr.checkKey em 10000 k v).run P w = .ok () w
  stays : ∀ (w : World) {v : Value}, K v → (Instr.keyThatStays v v).run P w = .ok v w
  find : ∀ (w : World) {x : Value}, K x → ∀ es : List MapEntry, (∀ e ∈ es, K e.key) →
    ((Instr.findKey k x es).run P w = .ok none w ∧ ∀ e ∈ es, e.key ≠ x) ∨ ∃ j e, (Instr.findKey k x es).run P w = .ok (some (j, e.val)) w ∧ es[j]? = some e ∧ e.key = x
theorem find_of (P : Program) {k : TypeId} {K : Value → Prop} (w : World) (heq : ∀ {x y : Value}, K x → K y → ∃ r : Bool, (Op.equal k x y).run P w = .ok r w ∧ (r = true ↔ x = y)) {x : Value} (hx : K x) :
    ∀ (es : List MapEntry) (i : Nat), (∀ e ∈ es, K e.key) →
      ((Instr.findAsking k x es i).run P w = .ok none w ∧ ∀ e ∈ es, e.key ≠ x) ∨
      ∃ j e, (Instr.findAsking k x es i).run P w = .ok (some (i + j, e.val)) w ∧ es[j]? = some e ∧ e.key = x
  | [], i, _ => Or.inl ⟨by simp [Instr.findAsking], by simp⟩
  | e :: es, i, hall => by
    obtain ⟨r, hr, hiff⟩ := heq hx (hall e (by simp))
    cases r
    · have hne : e.key ≠ x := fun h => by
        have := hiff.2 h.symm
        cases this
      rcases find_of P w heq hx es (i + 1) (fun y hy => hall y (by simp [hy])) with ⟨h1, h2⟩ | ⟨j, e', h1, h2, h3⟩
      · left
        refine ⟨by simp [Instr.findAsking, hr, h1], fun y hy => ?_⟩
        rcases List.mem_cons.1 hy with rfl | hy
        · exact hne
        · exact h2 y hy
      · right
        exact ⟨j + 1, e', by simp [Instr.findAsking, hr, h1, Nat.add_assoc, Nat.add_comm 1 j], by simpa using h2, h3⟩
    · right
      exact ⟨0, e, by simp [Instr.findAsking, hr], rfl, (hiff.1 rfl).symm⟩
theorem SetKey.mk' {P : Program} {k : TypeId} {K : Value → Prop} (hwide : (match P.underlying k with | some (.array _ _) | some (.struct _) => true | _ => false) = true)
    (check : ∀ (w : World) (em : Bool) {v : Value}, K v → (Instr.checkKey em 10000 k v).run P w = .ok () w) (stays : ∀ {v : Value}, K v → Instr.sameBits 10000 v v = true)
    (heq : ∀ (w : World) {x y : Value}, K x → K y → ∃ r : Bool, (Op.equal k x y).run P w = .ok r w ∧ (r = true ↔ x = y)) : SetKey P k K :=
  ⟨check, fun w v hv => by simp [Instr.keyThatStays, stays hv], fun w x hx es hes => by
    rw [run_findKey_eq w hwide]
    rcases find_of P w (fun hx hy => heq w hx hy) hx es 0 hes with h | ⟨j, e, h1, h2, h3⟩
    · exact .inl h
    · exact .inr ⟨j, e, by simpa using h1, h2, h3⟩⟩

/-- Block b is a map of at most n entries whose keys are those of the list, each with true beside it. -/
def World.isSet (w : World) (K : Value → Prop) (b n : Nat) (l : List Value) : Prop :=
  ∃ es clock, w.heap[b]? = some (.map es clock) ∧ es.size ≤ n ∧ (∀ e ∈ es.toList, K e.key) ∧ (∀ e ∈ es.toList, e.val = .bool true) ∧ ∀ x, (∃ e ∈ es.toList, e.key = x) ↔ x ∈ l
theorem isSet_made (w : World) (K : Value → Prop) : World.isSet (w.alloc (.map #[] 0)) K w.heap.size 0 [] :=
  ⟨#[], 0, (MapKept.heap_alloc w _).1, Nat.le_refl _, by simp, by simp, by simp⟩
theorem isSet_lt {w : World} {K : Value → Prop} {b n : Nat} {l : List Value} (h : World.isSet w K b n l) : b < w.heap.size := by
  obtain ⟨es, clock, hb, _⟩ := h
  exact (Array.getElem?_eq_some_iff.1 hb).1
theorem isSet_kept {w w' : World} {K : Value → Prop} {b n : Nat} {l : List Value} (h : World.isSet w K b n l) (hk : ∀ o : Obj, w.heap[b]? = some o → w'.heap[b]? = some o) : World.isSet w' K b n l := by
  obtain ⟨es, clock, hb, h2⟩ := h
  exact ⟨es, clock, hk _ hb, h2⟩
theorem isSet_lookup {w : World} {P : Program} {K : Value → Prop} {k t e : TypeId} {b n : Nat} {l : List Value} (h : World.isSet w K b n l) (L : SetKey P k K) (ht : P.underlying t = some (.map k e)) (hz : (zeroValue e).run P w = .ok (.bool false) w)
    {x : Value} (hx : K x) {z : Bool} (hzl : z = true ↔ x ∈ l) : (Instr.lookup t (.map (some b)) x false).run P w = .ok (.bool z) w := by
  obtain ⟨es, clock, hb, hn, h1, h2, h3⟩ := h
  rcases L.find w hx es.toList h1 with ⟨f1, f2⟩ | ⟨j, e0, f1, f2, f3⟩
  · have hz0 : z = false := by
      cases z with
      | false => rfl
      | true =>
        obtain ⟨e', he', hk'⟩ := (h3 x).2 (hzl.1 rfl)
        exact absurd hk' (f2 e' he')
    subst hz0
    simp [Instr.lookup, run_underlying ht, MapKept.run_getObj_map hb, L.check w _ hx, f1, hz, Result.andThen]
  · have hm := List.mem_of_getElem? f2
    have hz1 : z = true := hzl.2 ((h3 x).1 ⟨e0, hm, f3⟩)
    subst hz1
    simp [Instr.lookup, run_underlying ht, MapKept.run_getObj_map hb, L.check w _ hx, f1, h2 e0 hm, Result.andThen]
theorem isSet_update {w : World} {P : Program} {K : Value → Prop} {k t e : TypeId} {b n : Nat} {l : List Value} (h : World.isSet w K b n l) (L : SetKey P k K) (ht : P.underlying t = some (.map k e)) (hn : n < maxLen)
    {x : Value} (hx : K x) : ∃ w', (Instr.mapUpdate t (.map (some b)) x (.bool true)).run P w = .ok () w' ∧ World.isSet w' K b (n + 1) (l ++ [x]) ∧ w.grownBy w' (some b) := by
  obtain ⟨es, clock, hb, hsz, h1, h2, h3⟩ := h
  have hroom : es.size < maxLen := by omega
  rcases L.find w hx es.toList h1 with ⟨f1, f2⟩ | ⟨j, e0, f1, f2, f3⟩
  · refine ⟨setBlock w b (.map (es.push ⟨x, .bool true, clock⟩) (clock + 1)), ?_, ⟨_, _, heap_setBlock_same hb _, by simp; omega, ?_, ?_, ?_⟩, ⟨rfl, rfl, rfl, by simp [setBlock], fun i _ hi => heap_setBlock_other hb _ (fun e => hi (by rw [e]))⟩⟩
    · simp [Instr.mapUpdate, run_underlying ht, MapKept.run_getObj_map hb, L.check w false hx, f1, MapKept.run_setObj_map _ hb, Result.andThen, setBlock]
    · intro e he
      rw [Array.toList_push] at he
      rcases List.mem_append.1 he with he | he
      · exact h1 e he
      · obtain rfl := List.mem_singleton.1 he
        exact hx
    · intro e he
      rw [Array.toList_push] at he
      rcases List.mem_append.1 he with he | he
      · exact h2 e he
      · obtain rfl := List.mem_singleton.1 he
        rfl
    · intro y
      rw [List.mem_append, ← h3 y, Array.toList_push]
      constructor
      · rintro ⟨e, he, rfl⟩
        rcases List.mem_append.1 he with he | he
        · exact .inl ⟨e, he, rfl⟩
        · obtain rfl := List.mem_singleton.1 he
          exact .inr (by simp)
      · rintro (⟨e, he, rfl⟩ | he)
        · exact ⟨e, List.mem_append_left _ he, rfl⟩
        · obtain rfl := List.mem_singleton.1 he
          exact ⟨_, List.mem_append_right _ (List.mem_singleton_self _), rfl⟩
  · have hj : es[j]? = some e0 := by simpa using f2
    have hm0 := List.mem_of_getElem? f2
    have hlist : (es.modify j (fun e' => { e' with key := x, val := .bool true })).toList = es.toList.set j { e0 with key := x, val := .bool true } := by rw [Array.toList_modify, modify_eq_set _ _ _ _ f2]
    have hsame : ({ e0 with key := x, val := .bool true } : MapEntry) = e0 := by
      have := h2 e0 hm0
      obtain ⟨a, c, d⟩ := e0
      simp only at f3 this ⊢
      subst f3
      subst this
      rfl
    have hl2 : (es.modify j (fun e' => { e' with key := x, val := .bool true })).toList = es.toList := by
      rw [hlist, hsame]
      refine List.ext_getElem? fun i => ?_
      rw [List.getElem?_set]
      split
      · rename_i hji
        subst hji
        split
        · exact f2.symm
        · rename_i hnl
          exact absurd (List.getElem?_eq_some_iff.1 f2).1 hnl
      · rfl
    refine ⟨setBlock w b (.map (es.modify j (fun e' => { e' with key := x, val := .bool true })) clock), ?_, ⟨_, _, heap_setBlock_same hb _, by simp; omega, ?_, ?_, ?_⟩, ⟨rfl, rfl, rfl, by simp [setBlock], fun i _ hi => heap_setBlock_other hb _ (fun e => hi (by rw [e]))⟩⟩
    · simp [Instr.mapUpdate, run_underlying ht, MapKept.run_getObj_map hb, L.check w false hx, f1, hj, f3, L.stays w hx, MapKept.run_setObj_map _ hb, Result.andThen, setBlock]
    · rw [hl2]; exact h1
    · rw [hl2]; exact h2
    · intro y
      rw [hl2, h3 y, List.mem_append, List.mem_singleton]
      exact ⟨.inl, fun h => h.elim id fun e => e ▸ (h3 x).1 ⟨e0, hm0, f3⟩⟩

theorem agg3' (w : World) : (isAgg 3).run Try.prog w = .ok false w := by kernel_rfl
theorem agg49' (w : World) : (isAgg 49).run Try.prog w = .ok false w := by kernel_rfl
theorem agg51' (w : World) : (isAgg 51).run Try.prog w = .ok true w := by kernel_rfl
theorem size51' (w : World) : (sizeOf 51).run Try.prog w = .ok 2 w := by kernel_rfl
theorem eq3 (d : Nat) (w : World) (a b : Int) : (Op.equalIn (d + 1) 3 (.int .i64 a) (.int .i64 b)).run Try.prog w = .ok (a == b) w := by
  simp [Op.equalIn, run_underlying Try.underlying3]
theorem eq49 (d : Nat) (w : World) (a b : Int) : (Op.equalIn (d + 1) 49 (.int .u64 a) (.int .u64 b)).run Try.prog w = .ok (a == b) w := by
  simp [Op.equalIn, run_underlying Try.underlying49]
theorem eq51 (d : Nat) (w : World) (b c b' c' : Int) : (Op.equalIn (d + 2) 51 (.agg #[.int .i64 b, .int .u64 c]) (.agg #[.int .i64 b', .int .u64 c'])).run Try.prog w = .ok (b == b' && c == c') w := by
  rw [Op.equalIn]
  have e1 := eq3 d w b b'
  have e2 := eq49 d w c c'
  generalize (b == b') = x at e1 ⊢
  generalize (c == c') = y at e2 ⊢
  cases x <;> cases y <;> simp [run_underlying Try.underlying51, part, agg3', agg49', e1, e2, Result.andThen]
theorem eq53 (d : Nat) (w : World) (a b c a' b' c' : Int) : (Op.equalIn (d + 3) 53 (.agg #[.int .i64 a, .int .i64 b, .int .u64 c]) (.agg #[.int .i64 a', .int .i64 b', .int .u64 c'])).run Try.prog w = .ok (a == a' && (b == b' && c == c')) w := by
  rw [Op.equalIn]
  have e1 := eq3 (d + 1) w a a'
  have e2 := eq51 d w b c b' c'
  generalize (a == a') = x at e1 ⊢
  generalize (b == b' && c == c') = y at e2 ⊢
  cases x <;> cases y <;> simp [run_underlying Try.underlying53, part, agg3', agg51', size51', e1, e2, Result.andThen]
theorem chk3 (d : Nat) (w : World) (em : Bool) (a : Int) : (Instr.checkKey em (d + 1) 3 (.int .i64 a)).run Try.prog w = .ok () w := by
  simp [Instr.checkKey, run_underlying Try.underlying3]
theorem chk49 (d : Nat) (w : World) (em : Bool) (a : Int) : (Instr.checkKey em (d + 1) 49 (.int .u64 a)).run Try.prog w = .ok () w := by
  simp [Instr.checkKey, run_underlying Try.underlying49]
theorem chk51 (d : Nat) (w : World) (em : Bool) (b c : Int) : (Instr.checkKey em (d + 2) 51 (.agg #[.int .i64 b, .int .u64 c])).run Try.prog w = .ok () w := by
  rw [Instr.checkKey]
  simp [run_underlying Try.underlying51, part, agg3', agg49', chk3, chk49, Result.andThen]
theorem chk53 (d : Nat) (w : World) (em : Bool) (a b c : Int) : (Instr.checkKey em (d + 3) 53 (.agg #[.int .i64 a, .int .i64 b, .int .u64 c])).run Try.prog w = .ok () w := by
  rw [Instr.checkKey]
  simp [run_underlying Try.underlying53, part, agg3', agg51', size51', chk3, chk51, Result.andThen]
abbrev KeySn (v : Value) : Prop := ∃ a b c : Int, v = .agg #[.int .i64 a, .int .i64 b, .int .u64 c]
theorem set53 : SetKey Try.prog 53 KeySn := SetKey.mk' (by kernel_rfl) (fun w em v ⟨a, b, c, h⟩ => by subst h; exact chk53 9997 w em a b c) (fun ⟨a, b, c, h⟩ => by subst h; simp [Instr.sameBits])
  (fun w x y ⟨a, b, c, h⟩ ⟨a', b', c', h'⟩ => by subst h; subst h'; exact ⟨_, eq53 9997 w a b c a' b' c', by simp⟩)
end Go.Proofs.Ytipdggjalhjpnab
