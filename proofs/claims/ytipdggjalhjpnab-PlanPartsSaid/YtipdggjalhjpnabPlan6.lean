/-
  Plans: how many wait (the program's Most).
-/
import Derived.Test.YtipdggjalhjpnabPlan5
import Derived.IntWalk
namespace Go.Proofs.Ytipdggjalhjpnab
open Go.RowKit Go.Shelf
attribute [local go_sem] Oper.semAt_some
set_option linter.unusedSimpArgs false
set_option linter.unusedVariables false

theorem everywhere_any (S H : Int) (ev : Value) (va : Option Addr) (vn vc : Nat) (w : World) :
    Calls Try.prog 47 #[.agg #[.int .i64 S, ev, .int .i64 H], .slice va vn vc] w fun e w' => e = .returned (.func (.func 50) #[] #[.pointer (some ⟨w.heap.size + 1, 0, none⟩), .pointer (some ⟨w.heap.size, 0, none⟩)]) ∧ w' = (w.alloc (.cells #[.int .i64 S, ev, .int .i64 H] 24)).alloc (.cells #[.slice va vn vc] 46) := by
  have hmf : ∀ (fn : Fn) (first cap : Array Value) (w : World), (Instr.makeFunc fn first cap).run Try.prog w = .ok (.func fn first cap) w := fun _ _ _ _ => rfl
  go_enter Try.func47, Try.ntmps47
  go_wp2
  go_ret
  exact ⟨rfl, rfl⟩
theorem every_stops (S H : Int) (ev v : Value) (es : List (Int × Int)) (xs : List Pub) (w W0 : World) (hx : xs.length ≤ 1000) (n B1 B2 : Nat) (hn : 1 ≤ n) (Fx : Nat → Prop)
    (hF : ∀ k, k < w.heap.size → Fx k) (h1 : Fx B1) (h2 : Fx B2) (hw : Below w.heap.size w W0)
    (hv : Rd w 3 v xs.length (xs.flatMap Pub.cs)) (hr : Rd w 2 ev es.length (edgeCells es))
    (hb1 : W0.heap[B1]? = some (.cells #[v] 46 (0, 0))) (hb2 : W0.heap[B2]? = some (.cells #[.int .i64 S, ev, .int .i64 H] 24 (0, 0))) :
    SeqStopsK Fence.wide n Try.prog 50 #[.pointer (some ⟨B1, 0, none⟩), .pointer (some ⟨B2, 0, none⟩)] encP (KeepI Fx W0.heap.size) (fun ys => ys = seqL S es H xs) (fun _ => True) (seqL S es H xs).length W0 :=
  fun l J Jx W hW hJ _ hY h0 =>
    every1_in S H ev v es xs w hx n l B1 B2 W0.heap.size hn Fx J Jx W hJ hY hF h1 h2 hW.size hv hr (hw.trans (hW.mono hw.size)) ((hW.block _ (lt_of_block hb1)).trans hb1) ((hW.block _ (lt_of_block hb2)).trans hb2) h0

/-- How many wait of these. -/
def mostS (S : Int) (es : List (Int × Int)) (H : Int) (l : List (Pub × Int)) : Nat := (l.map fun x => if x.1.fed = true then (onward S es H x.1.origin x.2).length else 0).sum
theorem mostS_snoc (S : Int) (es : List (Int × Int)) (H : Int) (l : List (Pub × Int)) (x : Pub × Int) : mostS S es H (l ++ [x]) = mostS S es H l + if x.1.fed = true then (onward S es H x.1.origin x.2).length else 0 := by simp [mostS]
theorem mostS_le (S : Int) (es : List (Int × Int)) (H : Int) (l : List (Pub × Int)) : mostS S es H l ≤ l.length * 9 := sum_le _ _ (fun x => by split; exact onward_len _ _ _ _ _; omega) l
theorem mostS_seq (S : Int) (es : List (Int × Int)) (H : Int) : ∀ l : List Pub, mostS S es H (seqL S es H l) = mostN S es H l
  | [] => rfl
  | p :: l => by
    have ih := mostS_seq S es H l
    unfold mostS seqL mostN at ih ⊢
    rw [List.flatMap_cons, List.map_append, List.sum_append, ih, List.map_cons, List.sum_cons]
    congr 1
    unfold mostP mostK
    rw [List.map_map, List.take_length]
    cases hf : p.fed with
    | true => simp [Function.comp_def, hf]
    | false =>
      simp only [Function.comp_def, hf]
      generalize sitesL S es H p = L
      induction L with
      | nil => rfl
      | cons x L ih => simpa using ih

theorem blk_grown {W W' : World} {row : Option Nat} {B k : Nat} {o : Obj} (h : W.heap[k]? = some o) (hg : W.grownBy W' row) (hr : ∀ r, row = some r → B ≤ r ∧ ∃ o : Obj, W.heap[r]? = some o ∧ o.isCells = false) (hk : k < B) : W'.heap[k]? = some o :=
  (hg.block k (Array.getElem?_eq_some_iff.1 h).1 (fun e => by have := (hr k e.symm).1; omega)).trans h
theorem cel_grown {W W' : World} {row : Option Nat} {B k : Nat} {cs : Array Value} {t : TypeId} {f : Nat × Nat} (h : W.heap[k]? = some (.cells cs t f)) (hg : W.grownBy W' row) (hr : ∀ r, row = some r → B ≤ r ∧ ∃ o : Obj, W.heap[r]? = some o ∧ o.isCells = false) : W'.heap[k]? = some (.cells cs t f) := by
  refine (hg.block k (lt_of_block h) (fun e => ?_)).trans h
  obtain ⟨_, o, ho, hc⟩ := hr k e.symm
  rw [h] at ho
  cases ho
  cases hc
theorem KeepI.refl (Fx : Nat → Prop) (D : Nat) (W : World) : KeepI Fx D W W := ⟨Nat.le_refl _, fun _ _ => rfl, fun _ _ _ _ _ h _ => h⟩
theorem KeepI.of_below {Fx : Nat → Prop} {D : Nat} {W W' : World} (hF : ∀ k, Fx k → k < D) (hD : D ≤ W.heap.size) (h : Below W.heap.size W W') : KeepI Fx D W W' :=
  ⟨h.size, fun k hk => h.block k (by have := hF k hk; omega), fun k cs e f _ hk _ => (h.block k (lt_of_block hk)).trans hk⟩
theorem KeepI.set {Fx : Nat → Prop} {D : Nat} {W : World} {b : Nat} (hb : ¬ Fx b) (hD : b < D) (v : Value) : KeepI Fx D W (W.setCell ⟨b, 0, none⟩ v) :=
  ⟨by simp [World.setCell], fun k hk => Below.heap_setCell _ _ _ _ (fun e => hb (by simp at e; exact e ▸ hk)), fun k cs e f hk hc _ => (Below.heap_setCell _ _ _ _ (by simp; omega)).trans hc⟩
theorem KeepI.drew (Fx : Nat → Prop) (D : Nat) (W : World) : KeepI Fx D W W.drew := ⟨Nat.le_refl _, fun _ _ => rfl, fun _ _ _ _ _ h _ => h⟩

theorem oper_in {P : Program} {o : Oper} {a : Act} {w : World} {K K' : Act → World → Prop} {Q : Exit → Act → World → Prop} {n l : Nat} (hd : ∀ c, o.op ≠ .defer c) (hK : ∀ a w, K a w → K' a w)
    (h : o.wp P a w K Q) : o.wpIn (Fence.wide.inRound l) n P a w K' Q := by
  unfold Oper.wpIn
  refine ⟨fun f _ => trivial, ?_⟩
  rw [show (Fence.wide.inRound l).round = some l from rfl, Oper.semAt_some l _ _ hd]
  unfold Oper.wp at h
  generalize (execOp a.eval o).run P w = r at h
  cases r with
  | ok nx w' =>
    cases nx with
    | value v => exact hK _ _ h
    | skip => exact hK _ _ h
    | defer d => exact hK _ _ h
    | enter f args =>
      refine ⟨fun h => (by cases h), CallsIn.inRound l (callsIn_wide.2 (Calls.mono h ?_))⟩
      intro e w'' he
      cases e with
      | returned v => exact hK _ _ he
      | panicked c => exact he
      | outgrown => exact he
    | row row args =>
      refine ⟨fun h => (by cases h), fun c cs _ => ?_⟩
      obtain ⟨v, w2, h1, h2⟩ := (h : Rows P row args w' _) c cs
      exact ⟨v, w2, hK _ _ h1, stepsIn_wide.2 h2⟩
    | _ => exact (h : False).elim
  | halt x w' =>
    cases x <;> first | exact h | exact (h : False).elim
theorem anyIn_of {P : Program} {md : Region.Mode} {ops : Array Oper} {Q : Exit → Act → World → Prop} {n l : Nat} (hd : ∀ (i : Nat) (o : Oper) c, ops[i]? = some o → o.op ≠ .defer c) (hQ : ¬ LetsOut Q) :
    ∀ (fuel : Nat) (listed : Array Bool) (a : Act) (w : World), wpAny P md ops Q fuel listed a w → wpAnyIn (Fence.wide.inRound l) n P md ops Q fuel listed a w
  | 0, _, _, _, h => h
  | fuel + 1, listed, a, w, h => by
    refine ⟨h.1, fun i hi => ?_⟩
    have h1 := h.2 i hi
    unfold wpOp at h1
    unfold wpOpIn
    cases ho : ops[i]? with
    | none => rw [ho] at h1; exact anyIn_of hd hQ fuel _ _ _ h1
    | some o =>
      rw [ho] at h1
      simp only at h1 ⊢
      split
      · rename_i hw
        rw [if_pos hw] at h1
        rcases h1 with h1 | h1
        · exact oper_in (fun c => hd i o c ho) (fun a w h => anyIn_of hd hQ fuel _ a w h) h1
        · exact absurd h1.2 hQ
      · rename_i hw
        rw [if_neg hw] at h1
        exact ⟨fun f _ => trivial, anyIn_of hd hQ fuel _ _ _ h1⟩
/-- A statement that draws its order, in a round: as everywhere. -/
theorem region_in {P : Program} {id : Nat} {ops : Array Oper} {Q : Exit → Act → World → Prop} {a : Act} {w : World} {n l : Nat} (hm : P.follows .mixedOrders = true) (hd : ∀ (i : Nat) (o : Oper) c, ops[i]? = some o → o.op ≠ .defer c) (hQ : ¬ LetsOut Q)
    (h : wpAny P .any ops Q ops.size (Array.replicate ops.size false) a { w with drawn := w.drawn + 1 }) : (Code.region id ops true).wpIn (Fence.wide.inRound l) n P Q a w :=
  wpIn_region_any hm (anyIn_of hd hQ _ _ _ _ h)
theorem region_in_held {P : Program} {id : Nat} {ops : Array Oper} {Q : Exit → Act → World → Prop} {a : Act} {w : World} {n l : Nat} (S : World → Prop) (hm : P.follows .mixedOrders = true) (hd : (ops.all fun o => match o.op with | .defer _ => false | _ => true) = true) (hQ : ¬ LetsOut Q)
    (h : wpAnyH P .any ops Q S ops.size (Array.replicate ops.size false) a w.drew) : (Code.region id ops true).wpIn (Fence.wide.inRound l) n P Q a w :=
  region_in hm (fun i o c ho e => by
    have h1 := Array.all_eq_true_iff_forall_mem.1 hd o (Array.mem_of_getElem? ho)
    rw [e] at h1
    cases h1) hQ (wpAny_of_held _ _ _ _ h)

/-- What the loop of Most holds between two rounds. -/
def MostI (S : Int) (ev : Value) (es : List (Int × Int)) (H : Int) (w : World) (pre : List (Pub × Int)) (W : World) : Prop :=
  W.heap[w.heap.size + 1]? = some (.cells #[.int .i64 ((mostS S es H pre : Nat) : Int)] 3 (0, 0)) ∧ W.heap[w.heap.size]? = some (.cells #[.int .i64 S, ev, .int .i64 H] 24 (0, 0)) ∧ Below w.heap.size w W ∧ w.heap.size + 4 ≤ W.heap.size
theorem mostI_own (S : Int) (ev : Value) (es : List (Int × Int)) (H : Int) (w : World) {B : Nat} (hB : B = w.heap.size + 4) : OwnFrom B (MostI S ev es H w) := by
  rintro s W W' row ⟨h1, h2, h3, h4⟩ hg hr
  exact ⟨blk_grown h1 hg hr (by omega), blk_grown h2 hg hr (by omega), h3.grown hg h3.size (fun k e => by have := (hr k e).1; omega), Nat.le_trans h4 hg.size⟩
def MostA (S H : Int) (ev v : Value) (w : World) (x : Pub × Int) (a' : Act) (W : World) : Prop :=
  ∃ Bx, w.heap.size + 4 ≤ Bx ∧ W.heap[Bx]? = some (.cells #[.int .i64 x.1.origin, .int .u64 x.1.seq, .bool x.1.fed] 62 (0, 0)) ∧
    a' = { tmps := #[.agg #[.int .i64 S, ev, .int .i64 H], v, .pointer (some ⟨w.heap.size, 0, none⟩), undef, .int .i64 0, .pointer (some ⟨w.heap.size + 1, 0, none⟩), .pointer (some ⟨Bx, 0, none⟩), .int .i64 x.2, .agg #[.int .i64 S, ev, .int .i64 H], v,
      .func (.func 50) #[] #[.pointer (some ⟨w.heap.size + 1 + 1 + 1, 0, none⟩), .pointer (some ⟨w.heap.size + 1 + 1, 0, none⟩)], .agg #[.int .i64 x.1.origin, .int .u64 x.1.seq, .bool x.1.fed], .int .i64 x.2, undef, undef, undef, undef, undef, undef, undef, undef, undef, undef, undef, undef], defers := [] }
theorem mostA_own (S H : Int) (ev v : Value) (w : World) (B : Nat) (x : Pub × Int) (a' : Act) : OwnFrom B (fun (_ : Unit) W => MostA S H ev v w x a' W) := by
  rintro s W W' row ⟨Bx, h1, h2, h3⟩ hg hr
  exact ⟨Bx, h1, cel_grown h2 hg hr, h3⟩

set_option maxRecDepth 100000 in
set_option maxHeartbeats 2000000 in
theorem most_any (S H : Int) (ev v : Value) (es : List (Int × Int)) (xs : List Pub) (w : World) (hx : xs.length ≤ 1000) (hr : Rd w 2 ev es.length (edgeCells es)) (hv : Rd w 3 v xs.length (xs.flatMap Pub.cs)) :
    Calls Try.prog 32 #[topV S ev H, v] w fun e w' => e = .returned (.int .i64 (mostN S es H xs : Int)) ∧ Below w.heap.size w w' := by
  obtain ⟨va, vc, rfl⟩ := rd_slice hv
  unfold topV
  refine (callsIn_wide (n := 9)).1 ?_
  refine callsIn_of_wp_marks Try.func32 rfl trivial ?_ rfl
  simp only [Try.ntmps32, List.size_toArray, List.length_cons, List.length_nil, Nat.reduceAdd, Nat.reduceSub, Array.replicate_succ, Array.replicate_zero, List.push_toArray, List.append_toArray, List.nil_append, List.cons_append]
  gi_wp2_with (refine ⟨trivial, ?_⟩; gi_at_call 47; refine (callsIn_wide.2 (everywhere_any _ _ _ _ _ _ _)).mono ?_; rintro e w' ⟨rfl, rfl⟩)
  have k1 : ((((w.alloc (.cells #[.int .i64 S, ev, .int .i64 H] 24)).alloc (.cells #[.int .i64 0] 3)).alloc (.cells #[.int .i64 S, ev, .int .i64 H] 24)).alloc (.cells #[.slice va xs.length vc] 46)).heap[w.heap.size]? = some (.cells #[.int .i64 S, ev, .int .i64 H] 24 (0, 0)) := by
    rw [Below.heap_alloc _ _ _ (by simp; omega), Below.heap_alloc _ _ _ (by simp; omega), Below.heap_alloc _ _ _ (by simp), heap_alloc_new]
  have k2 : ((((w.alloc (.cells #[.int .i64 S, ev, .int .i64 H] 24)).alloc (.cells #[.int .i64 0] 3)).alloc (.cells #[.int .i64 S, ev, .int .i64 H] 24)).alloc (.cells #[.slice va xs.length vc] 46)).heap[w.heap.size + 1]? = some (.cells #[.int .i64 0] 3 (0, 0)) := by
    rw [Below.heap_alloc _ _ _ (by simp), Below.heap_alloc _ _ _ (by simp), heap_alloc_at]; simp
  have k3 : ((((w.alloc (.cells #[.int .i64 S, ev, .int .i64 H] 24)).alloc (.cells #[.int .i64 0] 3)).alloc (.cells #[.int .i64 S, ev, .int .i64 H] 24)).alloc (.cells #[.slice va xs.length vc] 46)).heap[w.heap.size + 1 + 1]? = some (.cells #[.int .i64 S, ev, .int .i64 H] 24 (0, 0)) := by
    rw [Below.heap_alloc _ _ _ (by simp), heap_alloc_at]; simp
  have k4 : ((((w.alloc (.cells #[.int .i64 S, ev, .int .i64 H] 24)).alloc (.cells #[.int .i64 0] 3)).alloc (.cells #[.int .i64 S, ev, .int .i64 H] 24)).alloc (.cells #[.slice va xs.length vc] 46)).heap[w.heap.size + 1 + 1 + 1]? = some (.cells #[.slice va xs.length vc] 46 (0, 0)) := by
    rw [heap_alloc_at]; simp
  have k5 : Below w.heap.size w ((((w.alloc (.cells #[.int .i64 S, ev, .int .i64 H] 24)).alloc (.cells #[.int .i64 0] 3)).alloc (.cells #[.int .i64 S, ev, .int .i64 H] 24)).alloc (.cells #[.slice va xs.length vc] 46)) :=
    ((((Below.refl _ _).alloc (Nat.le_refl _) _).alloc (by simp) _).alloc (by simp; omega) _).alloc (by simp; omega) _
  have k6 : ((((w.alloc (.cells #[.int .i64 S, ev, .int .i64 H] 24)).alloc (.cells #[.int .i64 0] 3)).alloc (.cells #[.int .i64 S, ev, .int .i64 H] 24)).alloc (.cells #[.slice va xs.length vc] 46)).heap.size = w.heap.size + 4 := by simp
  generalize ((((w.alloc (.cells #[.int .i64 S, ev, .int .i64 H] 24)).alloc (.cells #[.int .i64 0] 3)).alloc (.cells #[.int .i64 S, ev, .int .i64 H] 24)).alloc (.cells #[.slice va xs.length vc] 46)) = W0 at k1 k2 k3 k4 k5 k6 ⊢
  have hFx : ∀ k, (k < w.heap.size ∨ k = w.heap.size + 1 + 1 ∨ k = w.heap.size + 1 + 1 + 1) → k < W0.heap.size := fun k hk => by omega
  refine wpIn_rangeFunc_ownH rfl (by omega) (gf := 50) (lb := #[.pointer (some ⟨w.heap.size + 1 + 1 + 1, 0, none⟩), .pointer (some ⟨w.heap.size + 1 + 1, 0, none⟩)]) rfl trivial (enters_of Try.func50 (by kernel_rfl) rfl)
    (every_stops S H ev (.slice va xs.length vc) es xs w W0 hx _ (w.heap.size + 1 + 1 + 1) (w.heap.size + 1 + 1) (by omega) (fun k => k < w.heap.size ∨ k = w.heap.size + 1 + 1 ∨ k = w.heap.size + 1 + 1 + 1) (fun k hk => .inl hk) (.inr (.inr rfl)) (.inr (.inl rfl)) k5 hv hr k4 k3)
    KeepI.trans (fun W l o o' hl h hc _ => KeepI.putObj hFx W l o o' hl h hc) (Below.refl _ _) (fun _ => rfl)
    (MostI S ev es H w) (fun _ _ _ => False) (mostI_own S ev es H w k6) (fun _ _ _ _ _ hs _ _ => hs) ⟨k2, k1, k5, by omega⟩
    (MostA S H ev (.slice va xs.length vc) w) (fun x a' => mostA_own _ _ _ _ _ _ _ _) ?assign ?body ?done ?stop
  case assign =>
    rintro l pre ⟨⟨o, s, f⟩, n⟩ W K ⟨h1, h2, h3, h4⟩ hK
    have hbA := (Below.refl W.heap.size W).alloc (Nat.le_refl _) (.cells #[.int .i64 o, .int .u64 s, .bool f] 62)
    dsimp only [encP]
    gi_wp2
    exact hK _ _ ((KeepsOthers.alloc _ _).from _) (KeepI.of_below hFx (by omega) hbA) ⟨(hbA.block _ (lt_of_block h1)).trans h1, (hbA.block _ (lt_of_block h2)).trans h2, h3.trans (hbA.mono h3.size), Nat.le_trans h4 hbA.size⟩ ⟨W.heap.size, h4, heap_alloc_new _ _, rfl⟩
  case body =>
    rintro l pre ⟨⟨o, s, f⟩, n⟩ a' W hl ⟨r, hr'⟩ ⟨h1, h2, h3, h4⟩ ⟨Bx, hBx, bX, rfl⟩ hlt
    have hmx : Try.prog.follows .mixedOrders = true := by kernel_rfl
    have hle := mostS_le S es H pre
    have hsl := seqL_len S es H xs
    have hms := Lib.hid (mostS_snoc S es H pre (⟨o, s, f⟩, n))
    simp only at bX ⊢
    obtain ⟨b0, b1, b2⟩ := cells3 bX
    obtain ⟨t0, t1, t2⟩ := cells3 h2
    have d0 := cell_of_row _ _ 0 _ _ _ h1
    have df : W.frozen? ⟨w.heap.size + 1, 0, none⟩ = false := by simp [World.frozen?, h1]
    have h1z := lt_of_block h1
    have h2z := lt_of_block h2
    have hT : TopIn w.heap.size S H ev es w W := ⟨h2, hr.keep h3, h3⟩
    have HT := Lib.hid hT
    have H1 := Lib.hid h1
    generalize hmS : mostS S es H pre = m at hle hms d0 H1
    have HBx := Lib.hid bX
    clear hmS hT h1 h2 bX
    cases f with
    | false =>
      gi_wp2
      exact ⟨KeepsFrom.refl _ _, KeepI.refl _ _ _, by rw [hms.out]; exact H1.out, HT.out.1, h3, h4⟩
    | true =>
      have hO9 := onward_len S es H o n
      have hm2 : m ≤ 81000 := by omega
      have hd : 1 ≤ 9 - 1 - 1 := by omega
      have hTd := Lib.hid HT.out.drew
      have H1d := Lib.hid (show W.drew.heap[w.heap.size + 1]? = some (.cells #[.int .i64 (m : Int)] 3 (0, 0)) from H1.out)
      gi_wp2
      refine region_in_held (fun w' => TopIn w.heap.size S H ev es w w' ∧ w'.heap[Bx]? = some (.cells #[.int .i64 o, .int .u64 s, .bool true] 62 (0, 0))) hmx (by kernel_rfl) (fun h => by obtain ⟨_, _, h⟩ := h; exact h) ?_
      have hS : TopIn w.heap.size S H ev es w W.drew ∧ W.drew.heap[Bx]? = some (.cells #[.int .i64 o, .int .u64 s, .bool true] 62 (0, 0)) := ⟨hTd.out, HBx.out⟩
      refine wpAnyH_take (i := 1) (v := .agg #[.int .i64 S, ev, .int .i64 H]) rfl (by kernel_rfl) (by kernel_rfl) (by kernel_rfl) (fun _ _ _ h => h) (Or.inl ⟨by rfl, ?_⟩) hS ?_
      · rintro w' ⟨hw1, _⟩
        obtain ⟨q0, q1, q2⟩ := hw1.cells
        go_simp
      try simp only [Act.put, List.setIfInBounds_toArray, List.set_cons_zero, List.set_cons_succ]
      refine wpAnyH_take (i := 2) (v := .pointer (some ⟨Bx, 0, none⟩)) rfl (by kernel_rfl) (by kernel_rfl) (by kernel_rfl) (fun _ _ _ h => h) (Or.inl ⟨by rfl, ?_⟩) hS ?_
      · intro w' _; go_simp
      try simp only [Act.put, List.setIfInBounds_toArray, List.set_cons_zero, List.set_cons_succ]
      refine wpAnyH_take (i := 3) (v := .pointer (some ⟨Bx, 0, none⟩)) rfl (by kernel_rfl) (by kernel_rfl) (by kernel_rfl) (fun _ _ _ h => h) (Or.inl ⟨by rfl, ?_⟩) hS ?_
      · intro w' _; go_simp
      try simp only [Act.put, List.setIfInBounds_toArray, List.set_cons_zero, List.set_cons_succ]
      refine wpAnyH_take (i := 4) (v := .int .i64 o) rfl (by kernel_rfl) (by kernel_rfl) (by kernel_rfl) (fun _ _ _ h => h) (Or.inl ⟨by rfl, ?_⟩) hS ?_
      · rintro w' ⟨_, hw2⟩; obtain ⟨q0, q1, q2⟩ := cells3 hw2; go_simp
      try simp only [Act.put, List.setIfInBounds_toArray, List.set_cons_zero, List.set_cons_succ]
      refine wpAnyH_take (i := 5) (v := .int .i64 n) rfl (by kernel_rfl) (by kernel_rfl) (by kernel_rfl) (fun _ _ _ h => h) (Or.inl ⟨by rfl, ?_⟩) hS ?_
      · intro w' _; go_simp
      try simp only [Act.put, List.setIfInBounds_toArray, List.set_cons_zero, List.set_cons_succ]
      refine wpAnyH_ready (rs := [0, 6]) (by kernel_rfl) (by simp) ?_
      refine AllReadyH.cons rfl (fun K hK => ?_) (AllReadyH.cons rfl (fun K hK => ?_) AllReadyH.nil)
      · go_simp
        refine hK.out _ _ hS (fun _ => ?_)
        clear hK K
        try simp only [Act.put, List.setIfInBounds_toArray, List.set_cons_zero, List.set_cons_succ]
        refine wpAnyH_ready (rs := [6]) (by kernel_rfl) (by simp) ?_
        refine AllReadyH.cons rfl (fun K hK => ?_) AllReadyH.nil
        go_simp
        refine (onward_any S H o n _ es _ hTd.out.rd).mono ?_
        rintro e w1 ⟨u, rfl, hown, hb⟩
        obtain ⟨ua, uc, rfl⟩ := rd_slice (Rd.of_own hown)
        have g1 := (hb.block _ (lt_of_block H1d.out)).trans H1d.out
        have hS1 : TopIn w.heap.size S H ev es w w1 ∧ w1.heap[Bx]? = some (.cells #[.int .i64 o, .int .u64 s, .bool true] 62 (0, 0)) := ⟨hTd.out.next hb, (hb.block _ (lt_of_block HBx.out)).trans HBx.out⟩
        have e0 := cell_of_row _ _ 0 _ _ _ g1
        have ef : w1.frozen? ⟨w.heap.size + 1, 0, none⟩ = false := by simp [World.frozen?, g1]
        clear hown
        refine hK.out _ _ hS1 (fun _ => ?_)
        clear hK K
        try simp only [Act.put, List.setIfInBounds_toArray, List.set_cons_zero, List.set_cons_succ]
        refine wpAnyH_take (i := 7) (v := .int .i64 ((onward S es H o n).length : Int)) rfl (by kernel_rfl) (by kernel_rfl) (by kernel_rfl) (fun _ _ _ h => h) (Or.inl ⟨by rfl, ?_⟩) hS1 ?_
        · intro w' _; go_simp
        try simp only [Act.put, List.setIfInBounds_toArray, List.set_cons_zero, List.set_cons_succ]
        have hwr : IntKind.i64.wrap ((m : Int) + ((onward S es H o n).length : Int)) = ((m + (onward S es H o n).length : Nat) : Int) := by rw [IntWalk.i64_in _ (by omega)]; simp
        refine wpAnyH_take (i := 8) (v := .int .i64 (IntKind.i64.wrap ((m : Int) + ((onward S es H o n).length : Int)))) rfl (by kernel_rfl) (by kernel_rfl) (by kernel_rfl) (fun _ _ _ h => h) (Or.inl ⟨by rfl, ?_⟩) hS1 ?_
        · clear hwr; intro w' _; go_simp
        try simp only [Act.put, List.setIfInBounds_toArray, List.set_cons_zero, List.set_cons_succ]
        refine wpAnyH_ready (rs := [9]) (by kernel_rfl) (by simp) ?_
        refine AllReadyH.cons rfl (fun K hK => ?_) AllReadyH.nil
        go_simp
        refine hK.out _ _ ⟨hS1.1.setCell hr (by omega) (by omega) _, by rw [Below.heap_setCell _ _ _ _ (by simp; omega)]; exact hS1.2⟩ (fun _ => ?_)
        clear hK K
        refine wpAnyH_done (by kernel_rfl) ?_ _
        refine ⟨?_, ?_, ?_⟩
        · exact (KeepsOthers.drew W).trans ((KeepsOthers.of_grownBy (grown_of_below hb) (fun _ _ e => by cases e)).trans (KeepsOthers.setCell _ _ _)) |>.from _
        · exact ((KeepI.drew _ _ W).trans (KeepI.of_below hFx (by show W0.heap.size ≤ W.heap.size; omega) hb)).trans (KeepI.set (by omega) (by omega) _)
        · refine ⟨?_, (hS1.1.setCell hr (by omega) (by omega) _).1, (hS1.1.setCell hr (by omega) (by omega) _).2.2, ?_⟩
          · rw [heap_setCell_same _ _ _ _ _ _ g1, hms.out]
            exact congrArg (fun z => some (Obj.cells #[Value.int .i64 z] 3 (0, 0))) (by first | (simp; done) | (rw [hwr]; simp; done) | (simp; omega))
          · have := hb.size
            have h5 : W.drew.heap.size = W.heap.size := rfl
            simp [World.setCell]
            omega
      · skip
        go_simp
        refine (onward_any S H o n _ es _ hTd.out.rd).mono ?_
        rintro e w1 ⟨u, rfl, hown, hb⟩
        obtain ⟨ua, uc, rfl⟩ := rd_slice (Rd.of_own hown)
        have g1 := (hb.block _ (lt_of_block H1d.out)).trans H1d.out
        have hS1 : TopIn w.heap.size S H ev es w w1 ∧ w1.heap[Bx]? = some (.cells #[.int .i64 o, .int .u64 s, .bool true] 62 (0, 0)) := ⟨hTd.out.next hb, (hb.block _ (lt_of_block HBx.out)).trans HBx.out⟩
        have e0 := cell_of_row _ _ 0 _ _ _ g1
        have ef : w1.frozen? ⟨w.heap.size + 1, 0, none⟩ = false := by simp [World.frozen?, g1]
        clear hown
        refine hK.out _ _ hS1 (fun _ => ?_)
        clear hK K
        try simp only [Act.put, List.setIfInBounds_toArray, List.set_cons_zero, List.set_cons_succ]
        refine wpAnyH_take (i := 7) (v := .int .i64 ((onward S es H o n).length : Int)) rfl (by kernel_rfl) (by kernel_rfl) (by kernel_rfl) (fun _ _ _ h => h) (Or.inl ⟨by rfl, ?_⟩) hS1 ?_
        · intro w' _; go_simp
        try simp only [Act.put, List.setIfInBounds_toArray, List.set_cons_zero, List.set_cons_succ]
        refine wpAnyH_ready (rs := [0]) (by kernel_rfl) (by simp) ?_
        refine AllReadyH.cons rfl (fun K hK => ?_) AllReadyH.nil
        go_simp
        refine hK.out _ _ hS1 (fun _ => ?_)
        clear hK K
        try simp only [Act.put, List.setIfInBounds_toArray, List.set_cons_zero, List.set_cons_succ]
        have hwr : IntKind.i64.wrap ((m : Int) + ((onward S es H o n).length : Int)) = ((m + (onward S es H o n).length : Nat) : Int) := by rw [IntWalk.i64_in _ (by omega)]; simp
        refine wpAnyH_take (i := 8) (v := .int .i64 (IntKind.i64.wrap ((m : Int) + ((onward S es H o n).length : Int)))) rfl (by kernel_rfl) (by kernel_rfl) (by kernel_rfl) (fun _ _ _ h => h) (Or.inl ⟨by rfl, ?_⟩) hS1 ?_
        · clear hwr; intro w' _; go_simp
        try simp only [Act.put, List.setIfInBounds_toArray, List.set_cons_zero, List.set_cons_succ]
        refine wpAnyH_ready (rs := [9]) (by kernel_rfl) (by simp) ?_
        refine AllReadyH.cons rfl (fun K hK => ?_) AllReadyH.nil
        go_simp
        refine hK.out _ _ ⟨hS1.1.setCell hr (by omega) (by omega) _, by rw [Below.heap_setCell _ _ _ _ (by simp; omega)]; exact hS1.2⟩ (fun _ => ?_)
        clear hK K
        refine wpAnyH_done (by kernel_rfl) ?_ _
        refine ⟨?_, ?_, ?_⟩
        · exact (KeepsOthers.drew W).trans ((KeepsOthers.of_grownBy (grown_of_below hb) (fun _ _ e => by cases e)).trans (KeepsOthers.setCell _ _ _)) |>.from _
        · exact ((KeepI.drew _ _ W).trans (KeepI.of_below hFx (by show W0.heap.size ≤ W.heap.size; omega) hb)).trans (KeepI.set (by omega) (by omega) _)
        · refine ⟨?_, (hS1.1.setCell hr (by omega) (by omega) _).1, (hS1.1.setCell hr (by omega) (by omega) _).2.2, ?_⟩
          · rw [heap_setCell_same _ _ _ _ _ _ g1, hms.out]
            exact congrArg (fun z => some (Obj.cells #[Value.int .i64 z] 3 (0, 0))) (by first | (simp; done) | (rw [hwr]; simp; done) | (simp; omega))
          · have := hb.size
            have h5 : W.drew.heap.size = W.heap.size := rfl
            simp [World.setCell]
            omega
  case done =>
    rintro D ys W hD rfl ⟨h1, h2, h3, h4⟩ hK
    rw [mostS_seq] at h1
    have c0 := cell_of_row _ _ 0 _ _ _ h1
    have H3 := Lib.hid (h3.trans (belowK_b (w := w) (Nat.le_refl _) W D _ (.deferred none) (by omega) hK rfl rfl))
    clear h1 h2
    gi_wp2
    refine ⟨by simp, .inl ⟨_, _, rfl, run_takeDeferred hK, ?_⟩⟩
    exact ⟨_, results_tmp rfl _ _ _, rfl, H3.out⟩
  case stop =>
    rintro D c pre W _ _ h _
    exact h.elim
end Go.Proofs.Ytipdggjalhjpnab
