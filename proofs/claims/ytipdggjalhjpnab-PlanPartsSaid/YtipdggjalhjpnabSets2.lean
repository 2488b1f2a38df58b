/-
  Sets of ids and of events: their keys are compared without a stop.
-/
import Derived.Test.YtipdggjalhjpnabChk
import Derived.Laws.StructEq
namespace Go.Proofs.Ytipdggjalhjpnab
open Go.RowKit Go.ChangeMaps Go.MapKept Go.WideMaps
set_option linter.unusedSimpArgs false
set_option linter.unusedVariables false

theorem agg9' (w : World) : (isAgg 9).run Try.prog w = .ok false w := by kernel_rfl
theorem eq9 (d : Nat) (w : World) (a b : ByteArray) : (Op.equalIn (d + 1) 9 (.string a) (.string b)).run Try.prog w = .ok (a.toList == b.toList) w := run_equalIn_string w d 9 a b Try.underlying9
theorem eq70 (d : Nat) (w : World) (x y : Ev) : (Op.equalIn (d + 3) 70 (.agg x.cs.toArray) (.agg y.cs.toArray)).run Try.prog w = .ok (eqEv x y) w := by
  obtain ⟨a, q, b, c⟩ := x
  obtain ⟨a', q', b', c'⟩ := y
  rw [Op.equalIn]
  have e1 := eq3 (d + 1) w a a'
  have e2 := eq9 (d + 1) w q q'
  have e3 := eq51 d w b c b' c'
  unfold eqEv
  simp only [Ev.cs, List.toArray]
  generalize (a == a') = t1 at e1 ⊢
  generalize (q.toList == q'.toList) = t2 at e2 ⊢
  generalize (b == b' && c == c') = t3 at e3 ⊢
  cases t1 <;> cases t2 <;> cases t3 <;> simp [run_underlying Try.underlying70, part, agg3', agg9', agg51', size51', e1, e2, e3, Result.andThen]
theorem eq93 (d : Nat) (w : World) (x y : Ev) : (Op.equalIn (d + 3) 93 (.agg x.cs.toArray) (.agg y.cs.toArray)).run Try.prog w = .ok (eqEv x y) w := by
  obtain ⟨a, q, b, c⟩ := x
  obtain ⟨a', q', b', c'⟩ := y
  rw [Op.equalIn]
  have e1 := eq3 (d + 1) w a a'
  have e2 := eq9 (d + 1) w q q'
  have e3 := eq51 d w b c b' c'
  unfold eqEv
  simp only [Ev.cs, List.toArray]
  generalize (a == a') = t1 at e1 ⊢
  generalize (q.toList == q'.toList) = t2 at e2 ⊢
  generalize (b == b' && c == c') = t3 at e3 ⊢
  cases t1 <;> cases t2 <;> cases t3 <;> simp [run_underlying Try.underlying93, part, agg3', agg9', agg51', size51', e1, e2, e3, Result.andThen]
theorem chk9 (d : Nat) (w : World) (em : Bool) (a : ByteArray) : (Instr.checkKey em (d + 1) 9 (.string a)).run Try.prog w = .ok () w := by
  simp [Instr.checkKey, run_underlying Try.underlying9]
theorem chk70 (d : Nat) (w : World) (em : Bool) (x : Ev) : (Instr.checkKey em (d + 3) 70 (.agg x.cs.toArray)).run Try.prog w = .ok () w := by
  obtain ⟨a, q, b, c⟩ := x
  rw [Instr.checkKey]
  simp [Ev.cs, run_underlying Try.underlying70, part, agg3', agg9', agg51', size51', chk3, chk9, chk51, Result.andThen]
abbrev KeyId (v : Value) : Prop := ∃ b c : Int, v = .agg #[.int .i64 b, .int .u64 c]
theorem set51 : SetKey Try.prog 51 KeyId := SetKey.mk' (by kernel_rfl) (fun w em v ⟨b, c, h⟩ => by subst h; exact chk51 9998 w em b c) (fun ⟨b, c, h⟩ => by subst h; simp [Instr.sameBits])
  (fun w x y ⟨b, c, h⟩ ⟨b', c', h'⟩ => by subst h; subst h'; exact ⟨_, eq51 9998 w b c b' c', by simp⟩)
theorem beq_bytes (q : ByteArray) : (q == q) = true := by
  cases q with | mk d => show (d == d) = true; exact beq_self_eq_true d
def evV (x : Ev) : Value := .agg x.cs.toArray
theorem evV_inj {x y : Ev} (h : evV x = evV y) : x = y := by
  cases x; cases y
  simpa [evV, Ev.cs] using h
def KeyEv (v : Value) : Prop := ∃ x : Ev, v = evV x
theorem set70 : SetKey Try.prog 70 KeyEv := SetKey.mk' (by kernel_rfl) (fun w em v ⟨x, h⟩ => by subst h; exact chk70 9997 w em x) (fun ⟨x, h⟩ => by subst h; simp [evV, Ev.cs, Instr.sameBits]; exact beq_bytes _)
  (fun w x y ⟨a, h⟩ ⟨b, h'⟩ => by
    subst h; subst h'
    refine ⟨_, eq70 9997 w a b, ?_⟩
    rw [eqEv_iff]
    exact ⟨fun h => by rw [h], evV_inj⟩)
def idV (p : Pub) : Value := .agg #[.int .i64 p.origin, .int .u64 p.seq]
theorem idV_in {l : List Pub} {o s : Int} : l.any (sameId o s) = true ↔ (.agg #[.int .i64 o, .int .u64 s] : Value) ∈ l.map idV := by
  rw [List.any_eq_true, List.mem_map]
  constructor
  · rintro ⟨p, hp, h⟩
    obtain ⟨rfl, rfl⟩ := sameId_trans h
    exact ⟨p, hp, rfl⟩
  · rintro ⟨p, hp, h⟩
    obtain ⟨rfl, rfl⟩ : p.origin = o ∧ p.seq = s := by simpa [idV] using h
    exact ⟨p, hp, by simp [sameId]⟩
theorem evV_in {l : List Ev} {x : Ev} : isEv l x = true ↔ evV x ∈ l.map evV := by
  rw [isEv_iff, List.mem_map]
  exact ⟨fun h => ⟨x, h, rfl⟩, fun ⟨y, hy, h⟩ => evV_inj h ▸ hy⟩
end Go.Proofs.Ytipdggjalhjpnab
