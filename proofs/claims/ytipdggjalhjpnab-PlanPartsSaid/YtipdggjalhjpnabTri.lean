/-
  Topologies: the walk of TopoTriangles.
-/
import Derived.Test.YtipdggjalhjpnabLives
import Derived.Test.YtipdggjalhjpnabTPlain
import Derived.Deep.DeepCutAuto
import Derived.Deep.AppendLies
namespace Go.Proofs.Ytipdggjalhjpnab
open Go.RowKit
set_option linter.unusedSimpArgs false
set_option linter.unusedVariables false

/-- An append to a slice of the call's own, the source a slice that reads, inside a statement that draws its order. -/
theorem step_app {P : Program} {ops : Array Oper} {o : Oper} {a : Act} {w : World} {K : Act → World → Prop} {Q : Exit → Act → World → Prop} {E : Prop} (hgd : o.guard = none) (s x : Operand) (t : TypeId)
    (ho : o.op = .call { callee := .builtin .append, args := #[s, x], argTypes := #[t, t] })
    (base : Nat) (e : TypeId) (z : Value) (size bytes : Nat) (ht : P.underlying t = some (.slice e)) (hi : (P.info? e).map (fun i => (i.zero, i.size, i.bytes)) = some (some z, size, bytes))
    (hzs : z.cells.size = size) (hsz : 0 < size)
    (v xv : Value) (n m : Nat) (xs news : List Value) (hs : a.eval s = v) (hx : a.eval x = xv) (hown : w.ownsRow base e size v n xs) (hr : Rd w size xv m news) (h1 : ∀ u ∈ news, u.oneCell' = true)
    (hbytes : (n + m) * bytes ≤ 140737488355328) (h63 : n + m ≤ maxLen) (hbase : base ≤ w.heap.size)
    (h : ∀ v' w', w'.ownsRow base e size v' (n + m) (xs ++ news) → w.grownBy w' v.ownBlock → K (a.put o.dst v') w') :
    if Region.wanted o (yielded ops a.tmps) = true then Oper.wp P o a w K Q else E := by
  have hw : Region.wanted o (yielded ops a.tmps) = true := by simp [Region.wanted, hgd]
  rw [if_pos hw]
  obtain ⟨i, hi, hz0, hz1, hz2⟩ := info_parts hi
  obtain ⟨hl, ad, cap, rfl, hc1, hc2, hnone, hpos⟩ := hr
  cases ad with
  | none =>
    obtain ⟨rfl, rfl⟩ := hnone rfl
    have : news = [] := List.eq_nil_of_length_eq_zero (by simpa using hl)
    subst this
    have hrun : (Builtin.append_ #[t, t] o.type #[v, .slice none 0 0]).run P w = .ok v w := by
      rcases hown.2 with ⟨rfl, rfl⟩ | ⟨g, cap, cur, rfl, _, _, hnc, _⟩
      · simp [Builtin.append_, run_underlying ht, sizeOf, typeInfo, hi, Builtin.lenOf, Builtin.firstCells]
      · simp [Builtin.append_, run_underlying ht, sizeOf, typeInfo, hi, Builtin.lenOf, Builtin.firstCells, hnc, storeCells]
    unfold Oper.wp
    simp [execOp, ho, resolve, invoke, builtin, hs, hx, hrun, Result.andThen]
    exact h v w (by simpa using hown) (World.grownBy.refl _ _)
  | some ad =>
    refine wp_append_own w s x t ho base e i z size bytes ht hi hz0 hz1 hz2 hzs hsz v n xs hs hown ad m cap news hx hl ?_ h1 h63 hbytes hbase (fun v' w' h1 h2 _ => h v' w' h1 h2)
    intro j u hj
    have hm : 0 < m * size := by
      have := (List.getElem?_eq_some_iff.1 hj).1
      omega
    obtain ⟨b, off, e, _, hc⟩ := hpos hm
    obtain rfl := Option.some.inj e
    rw [Addr.add_lit]
    exact hc j u hj
theorem far_agg (S H a b : Int) (ev : Value) (es : List (Int × Int)) (w : World) (hr : Rd w 2 ev es.length (edgeCells es)) :
    Calls Try.prog 19 #[.agg #[.int .i64 S, ev, .int .i64 H], .int .i64 a, .int .i64 b] w fun e w' => e = .returned (.int .i64 (farI S es H a b)) ∧ Below w.heap.size w w' := far_any S H a b ev es w hr
/-- A box of an edge. -/
def BoxE (B : Nat) (x y : Int) (W : World) : Prop := W.heap[B]? = some (.cells #[.int .i64 x, .int .i64 y] 39 (0, 0))
theorem BoxE.next {B : Nat} {x y : Int} {W W1 : World} (h : BoxE B x y W) (hb : Below W.heap.size W W1) : BoxE B x y W1 := (hb.block _ (lt_of_block h)).trans h
theorem BoxE.cells {B : Nat} {x y : Int} {W : World} (h : BoxE B x y W) : W.cell? ⟨B, 0, none⟩ = some (.int .i64 x) ∧ W.cell? ⟨B, 1, none⟩ = some (.int .i64 y) := cells2 h
theorem BoxE.drew {B : Nat} {x y : Int} {W : World} (h : BoxE B x y W) : BoxE B x y W.drew := h
theorem farI_lt (S : Int) (es : List (Int × Int)) (H a b : Int) : -1 ≤ farI S es H a b ∧ farI S es H a b ≤ 8 := by
  by_cases h : 0 ≤ farI S es H a b
  · obtain ⟨hT, ha, hb⟩ := far_pos h
    rw [far_in hT ha hb]
    have := fst_bd es a.toNat S.toNat b.toNat
    have := hT.2.1
    unfold levI
    omega
  · have := farI_bd S es H a b
    omega

theorem own0 {W : World} {k base : Nat} (h : W.heap[k]? = some (.cells #[] 39 (0, 0))) (hb : base ≤ k) : W.ownsRow base 39 2 (.slice (some ⟨k, 0, none⟩) 0 0) 0 [] :=
  ⟨rfl, .inr ⟨k, 0, #[], rfl, hb, h, Nat.le_refl _, by decide, rfl, rfl⟩⟩
theorem rdE {W : World} {k : Nat} {x y : Int} (h : W.heap[k]? = some (.cells #[.int .i64 x, .int .i64 y] 39 (0, 0))) : Rd W 2 (.slice (some ⟨k, 0, none⟩) 1 1) 1 [.int .i64 x, .int .i64 y] := by
  refine ⟨rfl, _, _, rfl, Nat.le_refl _, by decide, (fun h => by cases h), fun _ => ⟨k, 0, rfl, lt_of_block h, fun j u hj => ?_⟩⟩
  rw [Nat.zero_add, cell_of_row _ _ j _ _ _ h]
  simpa using hj
theorem info39 : (Try.prog.info? 39).map (fun i => (i.zero, i.size, i.bytes)) = some (some (.agg #[.int .i64 0, .int .i64 0]), 2, 16) := by kernel_rfl
theorem edge_one (es : List (Int × Int)) : ∀ u ∈ edgeCells es, u.oneCell' = true := by
  intro u hu
  unfold edgeCells at hu
  obtain ⟨e, _, hu⟩ := List.mem_flatMap.1 hu
  simp at hu
  rcases hu with rfl | rfl <;> rfl
theorem TopIn.grown {B : Nat} {S H : Int} {ev : Value} {es : List (Int × Int)} {w0 W W1 : World} (hr : Rd w0 2 ev es.length (edgeCells es)) (hwB : w0.heap.size ≤ B) (h : TopIn B S H ev es w0 W) {row : Option Nat} (hg : W.grownBy W1 row) (hrow : ∀ k, row = some k → B < k) : TopIn B S H ev es w0 W1 := by
  have hb : Below w0.heap.size w0 W1 := h.2.2.grown hg h.size (fun k hk => by have := hrow k hk; omega)
  exact ⟨(hg.block B h.lt (fun e => by have := hrow B e.symm; omega)).trans h.1, hr.keep hb, hb⟩
theorem BoxE.grown {B : Nat} {x y : Int} {W W1 : World} (h : BoxE B x y W) {row : Option Nat} (hg : W.grownBy W1 row) (hrow : ∀ k, row = some k → B < k) : BoxE B x y W1 :=
  (hg.block B (lt_of_block h) (fun e => by have := hrow B e.symm; omega)).trans h
theorem BoxE.alloc {B : Nat} {x y : Int} {W : World} (h : BoxE B x y W) (o : Obj) : BoxE B x y (W.alloc o) := h.next ((Below.refl _ _).alloc (Nat.le_refl _) _)
theorem TopIn.setCell {B : Nat} {S H : Int} {ev : Value} {es : List (Int × Int)} {w0 W : World} (hr : Rd w0 2 ev es.length (edgeCells es)) (h : TopIn B S H ev es w0 W) {C k : Nat} (hC : w0.heap.size ≤ C) (hne : B ≠ C) (v : Value) : TopIn B S H ev es w0 (W.setCell ⟨C, k, none⟩ v) := by
  have hb : Below w0.heap.size w0 (W.setCell ⟨C, k, none⟩ v) := h.2.2.setCell hC _
  exact ⟨by rw [Below.heap_setCell _ _ _ _ (by simpa using hne)]; exact h.1, hr.keep hb, hb⟩
theorem BoxE.setCell {B : Nat} {x y : Int} {W : World} (h : BoxE B x y W) {C k : Nat} (hne : B ≠ C) (v : Value) : BoxE B x y (W.setCell ⟨C, k, none⟩ v) := by
  unfold BoxE at h ⊢
  rw [Below.heap_setCell _ _ _ _ (by simpa using hne)]; exact h
theorem s_all {B B2 : Nat} {S H x y : Int} {a : Option Addr} {n k : Nat} {es : List (Int × Int)} {w0 W : World} (h : TopIn B S H (.slice a n k) es w0 W) (h2 : BoxE B2 x y W) :
    TopIn B S H (.slice a n k) es w0 W ∧ BoxE B2 x y W ∧ W.cell? ⟨B, 0, none⟩ = some (.int .i64 S) ∧ W.cell? ⟨B, 1, none⟩ = some (.slice a n k) ∧ W.cell? ⟨B, 2, none⟩ = some (.int .i64 H) ∧ W.cell? ⟨B2, 0, none⟩ = some (.int .i64 x) ∧ W.cell? ⟨B2, 1, none⟩ = some (.int .i64 y) :=
  ⟨h, h2, h.cells.1, h.cells.2.1, h.cells.2.2, h2.cells⟩
theorem step_app0 {ops : Array Oper} {o : Oper} {a : Act} {w : World} {K : Act → World → Prop} {Q : Exit → Act → World → Prop} {E : Prop} (hgd : o.guard = none) (s x : Operand) 
    (ho : o.op = .call { callee := .builtin .append, args := #[s, x], argTypes := #[22, 22] }) (base : Nat) (xv : Value) (es : List (Int × Int)) (hl : es.length ≤ 200) {g : Nat} (hs : a.eval s = .slice (some ⟨g, 0, none⟩) 0 0) (hx : a.eval x = xv)
    (hg : w.heap[g]? = some (.cells #[] 39 (0, 0))) (hbg : base ≤ g) (hr : Rd w 2 xv es.length (edgeCells es))
    (h : ∀ v' w', w'.ownsRow base 39 2 v' es.length (edgeCells es) → w.grownBy w' (some g) → K (a.put o.dst v') w') :
    if Region.wanted o (yielded ops a.tmps) = true then Oper.wp Try.prog o a w K Q else E :=
  step_app hgd s x 22 ho base 39 (.agg #[.int .i64 0, .int .i64 0]) 2 16 Try.underlying22 info39 rfl (by decide) _ xv 0 es.length [] (edgeCells es) hs hx (own0 hg hbg) hr (edge_one es) (by omega) (by unfold maxLen; omega) (by have := lt_of_block hg; omega)
    (fun v' w' h1 h2 => h v' w' (by simpa using h1) h2)
theorem step_app1 {ops : Array Oper} {o : Oper} {a : Act} {w : World} {K : Act → World → Prop} {Q : Exit → Act → World → Prop} {E : Prop} (hgd : o.guard = none) (s x : Operand) 
    (ho : o.op = .call { callee := .builtin .append, args := #[s, x], argTypes := #[22, 22] }) (base : Nat) (v : Value) (es : List (Int × Int)) (p q : Int) (hl : es.length ≤ 200) {k : Nat} (hs : a.eval s = v) (hx : a.eval x = .slice (some ⟨k, 0, none⟩) 1 1)
    (hk : w.heap[k]? = some (.cells #[.int .i64 p, .int .i64 q] 39 (0, 0))) (hb : base ≤ w.heap.size) (hown : w.ownsRow base 39 2 v es.length (edgeCells es))
    (h : ∀ v' w', w'.ownsRow base 39 2 v' (es.length + 1) (edgeCells es ++ [.int .i64 p, .int .i64 q]) → w.grownBy w' v.ownBlock → K (a.put o.dst v') w') :
    if Region.wanted o (yielded ops a.tmps) = true then Oper.wp Try.prog o a w K Q else E :=
  step_app hgd s x 22 ho base 39 (.agg #[.int .i64 0, .int .i64 0]) 2 16 Try.underlying22 info39 rfl (by decide) v _ es.length 1 (edgeCells es) [.int .i64 p, .int .i64 q] hs hx hown (rdE hk) (by simp [Value.oneCell']) (by omega) (by unfold maxLen; omega) hb h
theorem drew_heap (w : World) : w.drew.heap = w.heap := rfl
theorem own_gt {W : World} {base : Nat} {v : Value} {n : Nat} {xs : List Value} (h : W.ownsRow (base + 1) 39 2 v n xs) : ∀ k, v.ownBlock = some k → base < k := fun k hk => (h.lt k hk).1
/-- The other topology: one edge more. -/
def Bigger (C B : Nat) (S H : Int) (es : List (Int × Int)) (x y : Int) (w wx : World) : Prop := ∃ ev, TopIn C S H ev (es ++ [(x, y)]) w wx ∧ BoxE B x y wx
theorem bigger_mk {C B : Nat} {S H x y : Int} {es : List (Int × Int)} {w W : World} {ev v : Value} {n : Nat} {base : Nat} (hC : W.heap[C]? = some (.cells #[.int .i64 S, ev, .int .i64 H] 24 (0, 0))) (hB : Below w.heap.size w W) (hwC : w.heap.size ≤ C) (hE : BoxE B x y W) (hBC : B ≠ C)
    (ho : W.ownsRow base 39 2 v n (edgeCells es ++ [.int .i64 x, .int .i64 y])) (hn : n = es.length + 1) (hbC : C < base) : Bigger C B S H es x y w (W.setCell ⟨C, 1, none⟩ v) := by
  subst hn
  refine ⟨v, ⟨?_, ?_, hB.setCell hwC _⟩, ?_⟩
  · rw [heap_setCell_same W _ _ _ _ _ hC]
    rfl
  · have hr : Rd W 2 v (es ++ [(x, y)]).length (edgeCells (es ++ [(x, y)])) := by
      have := Rd.of_own ho
      simpa [edgeCells] using this
    obtain ⟨hl, a', cap', ee, h1, h2, h3, h4⟩ := hr
    refine ⟨hl, a', cap', ee, h1, h2, h3, fun hp => ?_⟩
    obtain ⟨b, off, rfl, hb, hc⟩ := h4 hp
    refine ⟨b, off, rfl, by simpa [World.setCell] using hb, fun j u hj => ?_⟩
    have hne : b ≠ C := by
      have := ho.lt b (by rw [ee]; rfl)
      omega
    rw [World.cell?_setCell_far]
    · exact hc j u hj
    · simpa using Ne.symm hne
  · unfold BoxE at hE ⊢
    rw [Below.heap_setCell _ _ _ _ (by simpa using hBC)]
    exact hE

set_option maxRecDepth 4000 in
set_option maxHeartbeats 3200000 in
theorem tri_any (S H x y c : Int) (ev : Value) (es : List (Int × Int)) (w : World) (hr : Rd w 2 ev es.length (edgeCells es)) :
    Calls Try.prog 6 #[topV S ev H, .agg #[.int .i64 x, .int .i64 y], .int .i64 c] w fun e w' => e = .returned (.bool true) ∧ Below w.heap.size w w' := by
  have hT0 := Lib.hid ((TopIn.mk1 (S := S) (H := H) w hr).alloc (.cells #[.int .i64 x, .int .i64 y] 39))
  have hE0 := Lib.hid (show BoxE (w.heap.size + 1) x y ((w.alloc (.cells #[.int .i64 S, ev, .int .i64 H] 24)).alloc (.cells #[.int .i64 x, .int .i64 y] 39)) from by unfold BoxE; simpa using heap_alloc_new (w.alloc (.cells #[.int .i64 S, ev, .int .i64 H] 24)) (.cells #[.int .i64 x, .int .i64 y] 39))
  unfold topV
  obtain ⟨ea, ek, rfl⟩ := rd_slice hr
  obtain ⟨ok, hok⟩ : ∃ ok, decide (okT S es H) = ok := ⟨_, rfl⟩
  have Hok := Lib.hid hok
  clear hok
  go_enter Try.func6, Try.ntmps6
  go_wp2_with fail
  refine (good_any S H _ es _ hT0.out.rd).mono ?_
  rintro e w1 ⟨rfl, hb⟩
  rw [Hok.out]
  have hT1 := Lib.hid (hT0.out.next hb)
  have hE1 := Lib.hid (hE0.out.next hb)
  obtain ⟨c0, c1, c2⟩ := hT1.out.cells
  obtain ⟨d0, d1⟩ := hE1.out.cells
  clear hb
  cases ok with
  | false =>
    go_wp2_with fail
    refine (lives_any _).mono ?_
    rintro e w2 ⟨rfl, hb⟩
    go_wp2
    go_ret
    exact ⟨rfl, (hT1.out.next hb).below⟩
  | true =>
    by_cases hbig : 200 < es.length
    · go_wp2_with fail
      refine (lives_any _).mono ?_
      rintro e w2 ⟨rfl, hb⟩
      go_wp2
      go_ret
      exact ⟨rfl, (hT1.out.next hb).below⟩
    · have hsm : es.length ≤ 200 := by omega
      clear hbig
      go_wp2_with fail
      have hTq := hT1.out
      have hEq := hE1.out
      obtain ⟨ab, hab⟩ : ∃ z, farI S es H x y = z := ⟨_, rfl⟩
      obtain ⟨bc, hbc⟩ : ∃ z, farI S es H y c = z := ⟨_, rfl⟩
      obtain ⟨ac, hac⟩ : ∃ z, farI S es H x c = z := ⟨_, rfl⟩
      have Hab := Lib.hid hab
      have Hbc := Lib.hid hbc
      have Hac := Lib.hid hac
      clear hab hbc hac
      go_region_held3 (fun w' => TopIn w.heap.size S H (.slice ea es.length ek) es w w' ∧ BoxE (w.heap.size + 1) x y w' ∧ w'.cell? ⟨w.heap.size, 0, none⟩ = some (.int .i64 S) ∧ w'.cell? ⟨w.heap.size, 1, none⟩ = some (.slice ea es.length ek) ∧ w'.cell? ⟨w.heap.size, 2, none⟩ = some (.int .i64 H) ∧ w'.cell? ⟨w.heap.size + 1, 0, none⟩ = some (.int .i64 x) ∧ w'.cell? ⟨w.heap.size + 1, 1, none⟩ = some (.int .i64 y))
        (first | exact ⟨hTq.drew, hEq.drew, hTq.drew.cells.1, hTq.drew.cells.2.1, hTq.drew.cells.2.2, hEq.drew.cells⟩ | (go_split_ands; have hTz := TopIn.next (by assumption) hb; have hEz := BoxE.next (by assumption) hb; exact ⟨hTz, hEz, hTz.cells.1, hTz.cells.2.1, hTz.cells.2.2, hEz.cells⟩))
        (first
          | (go_at_call 19; with_reducible refine (far_agg S H x y _ es _ ?_).mono ?_; (go_split_ands; exact TopIn.rd (by assumption)); rintro e w2 ⟨rfl, hb⟩; rw [Hab.out])
          | (go_at_call 19; with_reducible refine (far_agg S H y c _ es _ ?_).mono ?_; (go_split_ands; exact TopIn.rd (by assumption)); rintro e w3 ⟨rfl, hb⟩; rw [Hbc.out])
          | (go_at_call 19; with_reducible refine (far_agg S H x c _ es _ ?_).mono ?_; (go_split_ands; exact TopIn.rd (by assumption)); rintro e w4 ⟨rfl, hb⟩; rw [Hac.out]))
      have hT4 := Lib.hid (show TopIn w.heap.size S H (.slice ea es.length ek) es w w4 from by go_split_ands; assumption)
      have hE4 := Lib.hid (show BoxE (w.heap.size + 1) x y w4 from by go_split_ands; assumption)
      have htri : 0 ≤ ab → 0 ≤ bc → 0 ≤ ac ∧ ac ≤ ab + bc := fun h1 h2 => by
        have := far_tri (S := S) (es := es) (H := H) (a := x) (b := y) (c := c) (by rw [Hab.out]; exact h1) (by rw [Hbc.out]; exact h2)
        rw [Hab.out, Hbc.out, Hac.out] at this
        exact this
      have b1 := farI_lt S es H x y
      have b2 := farI_lt S es H y c
      have b3 := farI_lt S es H x c
      rw [Hab.out] at b1
      rw [Hbc.out] at b2
      rw [Hac.out] at b3
      obtain ⟨b1, b1'⟩ := b1
      obtain ⟨b2, b2'⟩ := b2
      obtain ⟨b3, b3'⟩ := b3
      clear hTq hEq c0 c1 c2 d0 d1
      go_upto_region 4 with fail
      go_cut [54] (fun s wx => s = .bool false ∧ wx = w4)
      case first =>
        by_cases h1 : 0 ≤ ab
        · by_cases h2 : 0 ≤ bc
          · obtain ⟨h3, h4⟩ := htri h1 h2
            clear htri
            go_wp2
            go_meet
            exact ⟨by simp; omega, rfl⟩
          · clear htri
            have h2' : bc < 0 := by omega
            clear h2
            go_wp2
            go_meet
            exact ⟨by simp; try omega, rfl⟩
        · clear htri
          have h1' : ab < 0 := by omega
          clear h1
          go_wp2
          go_meet
          exact ⟨by simp; try omega, rfl⟩
      case rest =>
        obtain ⟨rfl, rfl⟩ := hcut
        obtain ⟨c0, c1, c2⟩ := hT4.out.cells
        obtain ⟨d0, d1⟩ := hE4.out.cells
        go_upto_region 7 with fail
        have hTq := hT4.out.alloc (.cells #[.int .i64 S, .slice ea es.length ek, .int .i64 H] 24)
        have hEq := hE4.out.next ((Below.refl _ _).alloc (Nat.le_refl _) (.cells #[.int .i64 S, .slice ea es.length ek, .int .i64 H] 24))
        have hC := heap_alloc_new wc (.cells #[.int .i64 S, .slice ea es.length ek, .int .i64 H] 24)
        have hcz := hT4.out.size
        have hbz : w.heap.size + 1 < wc.heap.size := lt_of_block hE4.out
        go_cut [62] (fun s wx => Bigger wc.heap.size (w.heap.size + 1) S H es x y w wx)
        case first =>
          go_region_held3 (fun w' => TopIn w.heap.size S H (.slice ea es.length ek) es w w' ∧ BoxE (w.heap.size + 1) x y w' ∧ w'.cell? ⟨w.heap.size, 0, none⟩ = some (.int .i64 S) ∧ w'.cell? ⟨w.heap.size, 1, none⟩ = some (.slice ea es.length ek) ∧ w'.cell? ⟨w.heap.size, 2, none⟩ = some (.int .i64 H) ∧ w'.cell? ⟨w.heap.size + 1, 0, none⟩ = some (.int .i64 x) ∧ w'.cell? ⟨w.heap.size + 1, 1, none⟩ = some (.int .i64 y))
            (((refine s_all ?_ ?_) <;> (first | (with_reducible exact hTq.drew) | (with_reducible exact hEq.drew) | (with_reducible exact (hTq.alloc _).drew) | (with_reducible exact (hEq.alloc _).drew) | (with_reducible exact ((hTq.alloc _).alloc _).drew) | (with_reducible exact ((hEq.alloc _).alloc _).drew) | (with_reducible exact hT5) | (with_reducible exact hE5) | (with_reducible exact hT5.alloc _) | (with_reducible exact hE5.alloc _) | (with_reducible exact hT6) | (with_reducible exact hE6) | (with_reducible exact hT6.setCell hr (by omega) (by omega) _) | (with_reducible exact hE6.setCell (by omega) _))))
            (first
              | (refine step_app0 rfl (.tmp 56) (.tmp 58) rfl (wc.heap.size + 1) (.slice ea es.length ek) es hsm rfl rfl ?_ ?_ ?_ ?_; (first | (focus (rw [drew_heap, heap_alloc_at]; (try simp); done)) | (focus (rw [drew_heap, heap_alloc_at, if_neg (by (first | omega | (simp; done) | (simp; omega) | (simp [drew_heap]; done) | (simp [drew_heap]; omega))), heap_alloc_at]; (try simp); done))); (first | omega | (simp; done) | (simp; omega) | (simp [drew_heap]; done) | (simp [drew_heap]; omega)); (go_split_ands; exact TopIn.rd (by assumption)); (intro v5 w5 ho5 hgr5; have hT5 := TopIn.grown hr (Nat.le_refl _) (show TopIn w.heap.size S H (.slice ea es.length ek) es w _ from (by go_split_ands; assumption)) hgr5 (fun k hk => by have hk := Option.some.inj hk; subst hk; (first | omega | (simp; done) | (simp; omega) | (simp [drew_heap]; done) | (simp [drew_heap]; omega))); have hE5 := BoxE.grown (show BoxE (w.heap.size + 1) x y _ from (by go_split_ands; assumption)) hgr5 (fun k hk => by have hk := Option.some.inj hk; subst hk; (first | omega | (simp; done) | (simp; omega) | (simp [drew_heap]; done) | (simp [drew_heap]; omega))); have hC5 := (hgr5.block wc.heap.size (by (first | omega | (simp; done) | (simp; omega) | (simp [drew_heap]; done) | (simp [drew_heap]; omega))) (by (first | omega | (simp; done) | (simp; omega) | (simp [drew_heap]; done) | (simp [drew_heap]; omega)))).trans (show _ = some (Obj.cells #[.int .i64 S, .slice ea es.length ek, .int .i64 H] 24 (0, 0)) from (by rw [drew_heap]; first | (refine (Below.heap_alloc _ _ _ ?_).trans (heap_alloc_new _ _); (first | omega | (simp; done) | (simp; omega) | (simp [drew_heap]; done) | (simp [drew_heap]; omega))) | (refine (Below.heap_alloc _ _ _ ?_).trans ((Below.heap_alloc _ _ _ ?_).trans (heap_alloc_new _ _)); (first | omega | (simp; done) | (simp; omega) | (simp [drew_heap]; done) | (simp [drew_heap]; omega)); (first | omega | (simp; done) | (simp; omega) | (simp [drew_heap]; done) | (simp [drew_heap]; omega))))); have hz5 : wc.heap.size + 1 ≤ w5.heap.size := (by have := hgr5.size; simp [drew_heap] at this; omega); have hkb := hgr5.block; have hg5 := own_gt ho5))
              | (refine step_app1 rfl (.tmp 59) (.tmp 61) rfl (wc.heap.size + 1) v5 es x y hsm rfl rfl ?_ ?_ ?_ ?_; (first | (exact heap_alloc_new _ _) | (focus (rw [hkb _ (by (first | omega | (simp; done) | (simp; omega) | (simp [drew_heap]; done) | (simp [drew_heap]; omega))) (by (first | omega | (simp; done) | (simp; omega) | (simp [drew_heap]; done) | (simp [drew_heap]; omega))), drew_heap, heap_alloc_at]; (try simp); done)) | (focus (rw [hkb _ (by (first | omega | (simp; done) | (simp; omega) | (simp [drew_heap]; done) | (simp [drew_heap]; omega))) (by (first | omega | (simp; done) | (simp; omega) | (simp [drew_heap]; done) | (simp [drew_heap]; omega))), drew_heap, heap_alloc_at, if_neg (by (first | omega | (simp; done) | (simp; omega) | (simp [drew_heap]; done) | (simp [drew_heap]; omega))), heap_alloc_at]; (try simp); done))); (first | omega | (simp; done) | (simp; omega) | (simp [drew_heap]; done) | (simp [drew_heap]; omega)); (first | exact ho5 | exact ho5.alloc _); (intro v6 w6 ho6 hgr6; obtain ⟨g6, k6, hv6, hg6, hg6', _⟩ := own_succ ho6 (by omega); subst hv6; have hT6 := TopIn.grown hr (Nat.le_refl _) (show TopIn w.heap.size S H (.slice ea es.length ek) es w _ from (by go_split_ands; assumption)) hgr6 (fun k hk => by have := hg5 k hk; omega); have hE6 := BoxE.grown (show BoxE (w.heap.size + 1) x y _ from (by go_split_ands; assumption)) hgr6 (fun k hk => by have := hg5 k hk; omega); have hC6 := (hgr6.block wc.heap.size (by (first | omega | (simp; done) | (simp; omega) | (simp [drew_heap]; done) | (simp [drew_heap]; omega))) (fun hk => by have := hg5 _ hk.symm; omega)).trans (show _ = some (Obj.cells #[.int .i64 S, .slice ea es.length ek, .int .i64 H] 24 (0, 0)) from (by first | exact hC5 | (rw [Below.heap_alloc _ _ _ (by (first | omega | (simp; done) | (simp; omega) | (simp [drew_heap]; done) | (simp [drew_heap]; omega)))]; exact hC5))); have q1 := cell_of_row _ _ 1 _ _ _ hC6; have qf : w6.frozen? ⟨wc.heap.size, 1, none⟩ = false := (by simp [World.frozen?, hC6]); have HC6 := Lib.hid hC6; clear hC6)))
          all_goals
            go_wp2_with fail
            go_meet
            exact bigger_mk HC6.out hT6.below hcz hE6 (by omega) ho6 rfl (by omega)
        case rest =>
          unfold Bigger at hcut
          obtain ⟨ev7, hT7, hE7⟩ := hcut
          rename World => w7
          have hT7 := Lib.hid hT7
          have hE7 := Lib.hid hE7
          clear hTq hEq hC c0 c1 c2 d0 d1 htri
          obtain ⟨c0, c1, c2⟩ := hT7.out.cells
          obtain ⟨d0, d1⟩ := hE7.out.cells
          obtain ⟨ok2, hok2⟩ : ∃ z, decide (okT S (es ++ [(x, y)]) H) = z := ⟨_, rfl⟩
          have Hok2 := Lib.hid hok2
          clear hok2
          obtain ⟨L, hL⟩ : ∃ L, es ++ [(x, y)] = L := ⟨_, rfl⟩
          have HL := Lib.hid hL
          rw [hL] at hT7 Hok2
          clear hL
          go_wp2_with fail
          refine (good_any S H _ L _ hT7.out.rd).mono ?_
          rintro e w8 ⟨rfl, hb8⟩
          rw [Hok2.out]
          have hT8 := Lib.hid (hT7.out.next hb8)
          have hE8 := Lib.hid (hE7.out.next hb8)
          clear c0 c1 c2 d0 d1 hb8
          obtain ⟨c0, c1, c2⟩ := hT8.out.cells
          obtain ⟨d0, d1⟩ := hE8.out.cells
          cases ok2 with
          | false =>
            go_wp2_with fail
            refine (lives_any _).mono ?_
            rintro e w9 ⟨rfl, hb9⟩
            go_wp2
            go_ret
            exact ⟨rfl, (hT8.out.next hb9).below⟩
          | true =>
            have ho2 := of_decide_eq_true Hok2.out
            rw [← HL.out] at ho2
            have hone := Lib.hid (show farI S L H x y = 1 from by rw [← HL.out]; exact far_edge ho2 (by simp))
            have hmore : 0 ≤ ac → 0 ≤ farI S L H x c ∧ farI S L H x c ≤ ac := fun h => by
              rw [← HL.out]
              have := far_more (S := S) (es := es) (H := H) (a := x) (c := c) (x, y) ho2 (by rw [Hac.out]; exact h)
              rw [Hac.out] at this
              exact this
            obtain ⟨nw, hnw⟩ : ∃ z, farI S L H x c = z := ⟨_, rfl⟩
            have Hnw := Lib.hid hnw
            rw [hnw] at hmore
            clear hnw ho2
            have Hmore := Lib.hid hmore
            clear hmore
            go_wp2_with fail
            refine (far_any S H x y _ L _ hT8.out.rd).mono ?_
            rintro e w9 ⟨rfl, hb9⟩
            rw [hone.out]
            have hT9 := Lib.hid (hT8.out.next hb9)
            have hE9 := Lib.hid (hE8.out.next hb9)
            clear c0 c1 c2 d0 d1 hb9
            obtain ⟨c0, c1, c2⟩ := hT9.out.cells
            obtain ⟨d0, d1⟩ := hE9.out.cells
            go_wp2_with fail
            refine (far_any S H x c _ L _ hT9.out.rd).mono ?_
            rintro e w10 ⟨rfl, hb10⟩
            rw [Hnw.out]
            have hT10 := Lib.hid (hT9.out.next hb10)
            clear c0 c1 c2 d0 d1 hb10
            by_cases hneg : ac < 0
            · go_wp2_with fail
              refine (lives_any _).mono ?_
              rintro e w11 ⟨rfl, hb11⟩
              go_wp2
              go_ret
              exact ⟨rfl, (hT10.out.next hb11).below⟩
            · obtain ⟨g1, g2⟩ := Hmore.out (by omega)
              have hneg2 : 0 ≤ ac := by omega
              have hneg3 : decide (ac < 0) = false := decide_eq_false hneg
              clear hneg
              go_wp2_with fail
              refine (lives_any _).mono ?_
              rintro e w11 ⟨rfl, hb11⟩
              go_wp2
              go_ret
              exact ⟨rfl, (hT10.out.next hb11).below⟩
end Go.Proofs.Ytipdggjalhjpnab
