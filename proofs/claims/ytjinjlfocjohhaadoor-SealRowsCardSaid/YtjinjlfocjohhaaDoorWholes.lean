/-
  Contracts of seal.Whole, of its closure and of its reference.
-/
import Derived.Test.YtjinjlfocjohhaaDoorOpens
import Derived.OneCell
namespace Go.Proofs.YtjinjlfocjohhaaDoor
open Go.RowKit
set_option linter.unusedSimpArgs false
set_option linter.unusedVariables false

theorem Tryd.info30 : (Tryd.prog.info? 30).map (fun i => (i.zero, i.size, i.bytes)) = some (some (.slice none 0 0), 1, 24) := by kernel_rfl

/-- Only certain blocks have turned. -/
structure Touch (bad : Nat → Prop) (w w' : World) : Prop where
  os : w'.os = w.os
  tape : w'.tape = w.tape
  output : w'.output = w.output
  size : w.heap.size ≤ w'.heap.size
  block : ∀ k, k < w.heap.size → ¬ bad k → w'.heap[k]? = w.heap[k]?
theorem Touch.below {bad : Nat → Prop} {w w' : World} {B : Nat} (h : Touch bad w w') (hB : B ≤ w.heap.size) (hb : ∀ k, bad k → B ≤ k) : Below B w w' :=
  ⟨h.os, h.tape, h.output, h.size, fun k hk => h.block k (by omega) (fun hk2 => by have := hb k hk2; omega)⟩
theorem own_touch {bad : Nat → Prop} {w w' : World} {base : Nat} {e : TypeId} {size : Nat} {v : Value} {n : Nat} {xs : List Value} (h : w.ownsRow base e size v n xs) (ht : Touch bad w w')
    (hb : ∀ g cur, v.ownBlock = some g → w.heap[g]? = some (.cells cur e (0, 0)) → ¬ bad g) : w'.ownsRow base e size v n xs := by
  refine ⟨h.1, ?_⟩
  rcases h.2 with hn | ⟨g, cap, cur, rfl, hbg, hg, rest⟩
  · exact .inl hn
  · refine .inr ⟨g, cap, cur, rfl, hbg, ?_, rest⟩
    rw [ht.block g (Array.getElem?_eq_some_iff.1 hg).1 (hb g cur rfl hg)]
    exact hg

theorem own_ne {w : World} {base : Nat} {e t : TypeId} {v : Value} {n : Nat} {xs : List Value} (h : w.ownsRow base e 1 v n xs) {B : Nat} {cs : Array Value} {f : Nat × Nat} (hB : w.heap[B]? = some (.cells cs t f)) (het : e ≠ t) : v.ownBlock ≠ some B := by
  intro hv
  rcases h.2 with ⟨rfl, _⟩ | ⟨g, cap, cur, rfl, _, hg, _⟩
  · cases hv
  · obtain rfl : g = B := by simpa [Value.ownBlock] using hv
    rw [hB] at hg
    simp at hg
    exact het hg.2.1.symm

set_option maxHeartbeats 800000 in
theorem take_any (c v : Value) (n at_ : Nat) (B1 B2 base k : Nat) (cells : List Value) (w : World) (hc : ∃ a l cp, c = .slice a l cp)
    (h1 : w.heap[B1]? = some (.cells #[v] 55 (0, 0))) (h2 : w.heap[B2]? = some (.cells #[.int .i64 (at_ : Int)] 3 (0, 0)))
    (hown : w.ownsRow base 30 1 v k cells) (hk : k ≤ 1000000000000) (ha : at_ + n ≤ 140737488351232) (hbase : base ≤ w.heap.size) :
    Calls Tryd.prog 47 #[c, .int .i64 (n : Int), .pointer (some ⟨B1, 0, none⟩), .pointer (some ⟨B2, 0, none⟩)] w fun e w' =>
      ∃ v', e = .returned (.tuple #[]) ∧ w'.heap[B1]? = some (.cells #[v'] 55 (0, 0)) ∧ w'.heap[B2]? = some (.cells #[.int .i64 ((at_ + n : Nat) : Int)] 3 (0, 0)) ∧
        w'.ownsRow base 30 1 v' (k + 1) (cells ++ [c]) ∧ Touch (fun g => g = B1 ∨ g = B2 ∨ v.ownBlock = some g) w w' := by
  obtain ⟨ca, cl, cc, rfl⟩ := hc
  have c1 := cell_of_one h1
  have c2 := cell_of_one h2
  have f1 := free_of_one h1
  have f2 := free_of_one h2
  have hz1 := lt_of_block h1
  have hz2 := lt_of_block h2
  have H1 := Lib.hid h1
  have H2 := Lib.hid h2
  clear h1 h2
  have N1 := own_ne hown H1.out (by decide)
  have N2 := own_ne hown H2.out (by decide)
  obtain ⟨va, vl, vc, rfl⟩ := rd_slice (Rd.of_own hown)
  have N3 := Lib.hid N1
  have N4 := Lib.hid N2
  have hB12 := Lib.hid (show B1 ≠ B2 from fun e => by { have := H1.out; rw [e, H2.out] at this; simp at this })
  clear N1 N2
  go_enter Tryd.func47, Tryd.ntmps47
  go_wp2_with (at_builtin; refine wpList_app _ rfl _ _ 55 rfl base 30 (.slice none 0 0) 1 24 Tryd.underlying55 Tryd.info30 rfl (by decide) (.slice va k vl) _ _ 1 _ [_] rfl rfl (hown.alloc _) (rd_one _ _ _) (by intro u hu; simp at hu; subst hu; rfl) (by omega) (by unfold maxLen; omega) (by simp; omega) ?_; intro v' w2 ho hgr; obtain ⟨g, cp, rfl, hg1, hg2, hg3, hg4⟩ := own_succ ho (by omega); have G1 : w2.heap[B1]? = some (.cells #[.slice va k vl] 55 (0, 0)) := ((hgr.block B1 (by simp; omega) (fun e => N3.out e.symm)).trans (Below.heap_alloc _ _ _ hz1)).trans H1.out; have G2 : w2.heap[B2]? = some (.cells #[.int .i64 (at_ : Int)] 3 (0, 0)) := ((hgr.block B2 (by simp; omega) (fun e => N4.out e.symm)).trans (Below.heap_alloc _ _ _ hz2)).trans H2.out; have d1 := cell_of_one G1; have d2 := cell_of_one G2; have f3 := free_of_one G1; have f4 := free_of_one G2; have G3 : (w2.setCell ⟨B1, 0, none⟩ (.slice (some ⟨g, 0, none⟩) (k + 1) cp)).heap[B2]? = some (.cells #[.int .i64 (at_ : Int)] 3 (0, 0)) := (Below.heap_setCell _ _ _ _ (fun e => hB12.out e.symm)).trans G2; have d5 := cell_of_one G3; have f5 := free_of_one G3; have K1 := Lib.hid G1; have K2 := Lib.hid G2; have K3 := Lib.hid G3; have Kg := Lib.hid hgr; have Ko := Lib.hid ho; clear G1 G2 G3 hgr ho hown)
  go_end0
  refine ⟨.slice (some ⟨g, 0, none⟩) (k + 1) cp, rfl, ?_, ?_, ?_, ?_⟩
  · exact (Below.heap_setCell _ _ _ _ hB12.out).trans (one_setCell K1.out)
  · have := one_setCell (u := .int .i64 ((at_ : Int) + n)) K3.out
    rw [Int.natCast_add]
    exact this
  · have e1 : (Value.slice (some ⟨g, 0, none⟩) (k + 1) cp).ownBlock ≠ some B1 := own_ne Ko.out K1.out (by decide)
    have e2 : (Value.slice (some ⟨g, 0, none⟩) (k + 1) cp).ownBlock ≠ some B2 := own_ne Ko.out K2.out (by decide)
    exact ownsRow_setCell_other (ownsRow_setCell_other Ko.out e1 _) e2 _
  · refine ⟨Kg.out.os, Kg.out.tape, Kg.out.output, ?_, fun j hj hb => ?_⟩
    · have := Kg.out.size
      simp [World.setCell] at this ⊢
      omega
    · have hb1 : j ≠ B1 := fun e => hb (Or.inl e)
      have hb2 : j ≠ B2 := fun e => hb (Or.inr (Or.inl e))
      rw [Below.heap_setCell _ _ _ _ hb2, Below.heap_setCell _ _ _ _ hb1, Kg.out.block j (by simp; omega) (fun e => hb (Or.inr (Or.inr e.symm))), Below.heap_alloc _ _ _ hj]

/-- The contents that bytes begin with, one behind the other, and how many bytes they are: some of them, from the first on. -/
inductive Parse (xs : List Int) : Nat → List (List Int) → Prop
  | nil : Parse xs 0 []
  | snoc {p n : Nat} {l : List (List Int)} {c : List Int} : Parse xs p l → openI (xs.drop p) = (c, n, 0) → Parse xs (p + n) (l ++ [c])
theorem open_zero {xs c : List Int} {n : Nat} (h : openI xs = (c, n, 0)) : ¬ xs.length < 4 ∧ ¬ 1048576 < cnt xs ∧ ¬ xs.length < cnt xs + 8 ∧ num ((xs.drop (4 + cnt xs)).take 4) = sumI (xs.take (4 + cnt xs)) ∧ c = (xs.drop 4).take (cnt xs) ∧ n = cnt xs + 8 := by
  unfold openI at h
  split at h
  · simp at h
  · split at h
    · simp at h
    · split at h
      · simp at h
      · split at h
        · simp at h
          exact ⟨by assumption, by assumption, by assumption, by assumption, h.1.symm, h.2.symm⟩
        · simp at h
theorem Parse.le {xs : List Int} {p : Nat} {l : List (List Int)} (h : Parse xs p l) : p ≤ xs.length ∧ l.length * 8 ≤ p := by
  induction h with
  | nil => simp
  | snoc h1 h2 ih =>
    obtain ⟨_, _, h3, _, _, rfl⟩ := open_zero h2
    rw [List.length_drop] at h3
    rw [List.length_append]
    simp
    omega
/-- Each row of bytes is the call's own. -/
def Rows (w : World) (base : Nat) (cells : List Value) (l : List (List Int)) : Prop :=
  cells.length = l.length ∧ ∀ (i : Nat) (c : Value) (x : List Int), cells[i]? = some c → l[i]? = some x → w.ownsRow base 5 1 c x.length (by8 x)
theorem Rows.nil (w : World) (base : Nat) : Rows w base [] [] := ⟨rfl, fun i c x h => by simp at h⟩
theorem Rows.snoc {w : World} {base : Nat} {cells : List Value} {l : List (List Int)} (h : Rows w base cells l) {c : Value} {x : List Int} (hc : w.ownsRow base 5 1 c x.length (by8 x)) : Rows w base (cells ++ [c]) (l ++ [x]) := by
  refine ⟨by simp [h.1], fun i d y hd hy => ?_⟩
  rw [List.getElem?_append] at hd hy
  rw [h.1] at hd
  split at hd
  · rename_i hi
    rw [if_pos hi] at hy
    exact h.2 i d y hd hy
  · rename_i hi
    rw [if_neg hi] at hy
    have e : i - l.length = 0 := by
      have := (List.getElem?_eq_some_iff.1 hd).1
      simp at this
      omega
    rw [e] at hd hy
    simp at hd hy
    subst hd hy
    exact hc
theorem Rows.map {w w' : World} {base base' : Nat} {cells : List Value} {l : List (List Int)} (h : Rows w base cells l) (hm : ∀ c (x : List Int), w.ownsRow base 5 1 c x.length (by8 x) → w'.ownsRow base' 5 1 c x.length (by8 x)) : Rows w' base' cells l :=
  ⟨h.1, fun i c x hc hx => hm c x (h.2 i c x hc hx)⟩
theorem Rows.below {w w' : World} {base : Nat} {cells : List Value} {l : List (List Int)} (h : Rows w base cells l) (hb : Below w.heap.size w w') : Rows w' base cells l :=
  h.map fun c x hc => below_own hc hb (Nat.le_refl _)
def WholeIs (xs : List Int) (l : List (List Int)) (p : Nat) : Prop := Parse xs p l ∧ (openI (xs.drop p)).2.2 ≠ 0
def Wholed (w : World) (xs : List Int) (e : Ending) (w' : World) : Prop :=
  ∃ v p l cells, e = .returned (.tuple #[v, .int .i64 ((p : Nat) : Int)]) ∧ WholeIs xs l p ∧ w'.ownsRow w.heap.size 30 1 v l.length cells ∧ Rows w' w.heap.size cells l ∧ Below w.heap.size w w'

theorem popen_at (v : Value) (xs : List Int) (w : World) (hw : Wid w) (hr : Rd w 1 v xs.length (by8 xs)) (hby : Byt xs) (hx : xs.length ≤ 140737488351232) {oc : List Int} {on oe : Nat} (ho : openI xs = (oc, on, oe)) :
    Calls Tryd.prog 42 #[v] w fun e w' => ∃ c, e = .returned (.tuple #[c, .int .i64 (on : Int), .int .i64 (oe : Int)]) ∧ w'.ownsRow w.heap.size 5 1 c oc.length (by8 oc) ∧ Below w.heap.size w w' := by
  have := popen_any v xs w hw hr hby hx
  rw [ho] at this
  exact this
theorem sopen_at (v : Value) (xs : List Int) (w : World) (hr : Rd w 1 v xs.length (by8 xs)) (hby : Byt xs) (hx : xs.length ≤ 140737488351232) {oc : List Int} {on oe : Nat} (ho : openI xs = (oc, on, oe)) :
    Calls Tryd.prog 43 #[v] w fun e w' => ∃ c, e = .returned (.tuple #[c, .int .i64 (on : Int), .int .i64 (oe : Int)]) ∧ w'.ownsRow w.heap.size 5 1 c oc.length (by8 oc) ∧ Below w.heap.size w w' := by
  have := sopen_any v xs w hr hby hx
  rw [ho] at this
  exact this

set_option maxHeartbeats 1600000 in
theorem whole_any (a : Option Addr) (cap : Nat) (xs : List Int) (w : World) (hw : Wid w) (hr : Rd w 1 (.slice a xs.length cap) xs.length (by8 xs)) (hby : Byt xs) (hx : xs.length ≤ 1000000000000) (had : 0 < cap → ∃ b off, a = some ⟨b, off, none⟩) :
    Calls Tryd.prog 44 #[.slice a xs.length cap] w (Wholed w xs) := by
  have Hy := Lib.hid hby
  have hmf : ∀ (fn : Fn) (first cap : Array Value) (w : World), (Instr.makeFunc fn first cap).run Tryd.prog w = .ok (.func fn first cap) w := fun _ _ _ _ => rfl
  go_enter Tryd.func44, Tryd.ntmps44
  go_wp2
  go_step3
  go_wp2
  go_step3
  go_wp2
  go_loopw [7, 8, 9, 11] (fun _ _ _ _ wr => ∃ (p : Nat) (l : List (List Int)) (cells : List Value) (v : Value), Parse xs p l ∧ wr.heap[w.heap.size]? = some (.cells #[v] 55 (0, 0)) ∧ wr.heap[w.heap.size + 1]? = some (.cells #[.int .i64 (p : Int)] 3 (0, 0)) ∧ wr.ownsRow w.heap.size 30 1 v l.length cells ∧ Rows wr w.heap.size cells l ∧ Below w.heap.size w wr)
    (fun _ _ _ _ wr => xs.length - (intOf ((wr.cell? ⟨w.heap.size + 1, 0, none⟩).getD undef)).toNat)
  case atStart =>
    refine ⟨0, [], [], .slice none 0 0, Parse.nil, ?_, ?_, World.ownsRow_nil _ _ _ _, Rows.nil _ _, ((Below.refl _ _).alloc (Nat.le_refl _) _).alloc (by simp) _⟩
    · rw [Below.heap_alloc _ _ _ (by simp)]; exact heap_alloc_new _ _
    · have := heap_alloc_new (w.alloc (.cells #[.slice none 0 0] 55)) (.cells #[.int .i64 0] 3)
      simpa using this
  case round =>
    obtain ⟨p, l, cells, v, hp, h1, h2, hown, hrows, hB⟩ := hrel
    have c1 := cell_of_one h1
    have c2 := cell_of_one h2
    obtain ⟨hp1, hp2⟩ := hp.le
    have hrw := hr.keep hB
    have hww := hw.below hB
    have H1 := Lib.hid h1
    have H2 := Lib.hid h2
    have hz := lt_of_block h2
    clear h1 h2
    obtain ⟨oc, on, oe, ho⟩ : ∃ oc on oe, openI (xs.drop p) = (oc, on, oe) := ⟨_, _, _, rfl⟩
    have hlc := rd_lit hr
    obtain ⟨hlc1, hlc2⟩ := hlc
    have hsz := hB.size
    by_cases he : oe = 0
    · subst he
      have hP := Lib.hid (Parse.snoc hp ho)
      have hpl := (Parse.snoc hp ho).le
      obtain ⟨hpl1, hpl2⟩ := hpl
      by_cases hcp : cap = p
      · exfalso
        have := open_zero ho
        rw [List.length_drop] at this
        omega
      · obtain ⟨b, off, rfl⟩ := had (by omega)
        have hd := hrw.piece p (xs.length - p) (cap - p) (by8 (xs.drop p)) (by omega) (by omega) (by omega) (by simp [by8, List.map_drop]; rw [List.take_of_length_le (by simp)])
        rw [Nat.mul_one] at hd
        go_wp2_with (first | (go_at_call 42; with_reducible refine (popen_at (.slice (some ⟨b, off + p, none⟩) (xs.length - p) (cap - p)) (xs.drop p) _ hww (by rw [List.length_drop]; exact hd) (byt_drop Hy.out p) (by rw [List.length_drop]; omega) ho).mono ?_; rintro e w1 ⟨c, rfl, hco, hb1⟩; obtain ⟨ca, cc, hce⟩ := rd_slice (Rd.of_own hco); have hsc : ∃ a l cp, c = .slice a l cp := ⟨_, _, _, hce⟩; clear hce; have G1 := (hb1.block _ (by omega)).trans H1.out; have G2 := (hb1.block _ (by omega)).trans H2.out; have hown1 := below_own hown hb1 (Nat.le_refl _); have hrows1 := (hrows.below hb1).snoc (own_base hco hsz); have hB1 := hB.trans (hb1.mono hsz); have hsz1 := hB1.size) | (go_at_call 47; with_reducible refine (take_any c v on p w.heap.size (w.heap.size + 1) w.heap.size l.length cells _ hsc G1 G2 hown1 (by omega) (by omega) hsz1).mono ?_; rintro e w2 ⟨v2, rfl, K1, K2, hown2, ht⟩))
        go_roundw
        case rel =>
          have hin : ∀ (d : Value) (y : List Int), w1.ownsRow w.heap.size 5 1 d y.length (by8 y) → w2.ownsRow w.heap.size 5 1 d y.length (by8 y) := fun d y hd => own_touch hd ht (by
            rintro g cur hg hgc (rfl | rfl | hvg)
            · rw [G1] at hgc; simp at hgc
            · rw [G2] at hgc; simp at hgc
            · exact own_ne hown1 hgc (by decide) hvg)
          have hB2 := hB1.trans (ht.below (B := w.heap.size) hsz1 (by
            rintro g (rfl | rfl | hvg)
            · exact Nat.le_refl _
            · omega
            · exact (hown1.lt g hvg).1))
          exact ⟨p + on, l ++ [oc], cells ++ [c], v2, hP.out, K1, K2, by rw [List.length_append]; exact hown2, hrows1.map hin, hB2⟩
        case measure =>
          rw [cell_of_one K2, c2]
          have := (open_zero ho).2.2.2.2.2
          simp [intOf]
          omega
    · have he1 : ((oe : Int) == 0) = false := by simp; omega
      have he2 : ((oe : Int) != 0) = true := by simp; omega
      have hW := Lib.hid (show WholeIs xs l p from ⟨hp, by rw [ho]; exact he⟩)
      clear he
      by_cases hcp : cap = p
      · subst hcp
        have hd : Rd wr 1 (.slice a 0 0) (xs.drop cap).length (by8 (xs.drop cap)) := by
          have e2 : xs.drop cap = [] := List.drop_eq_nil_of_le (by omega)
          rw [e2]
          exact ⟨rfl, a, 0, rfl, Nat.le_refl _, Nat.zero_le _, fun _ => ⟨rfl, rfl⟩, fun h => by simp at h⟩
        go_wp2_with (first | (go_at_call 42; with_reducible refine (popen_at (.slice a 0 0) (xs.drop cap) _ hww hd (byt_drop Hy.out cap) (by rw [List.length_drop]; omega) ho).mono ?_; rintro e w1 ⟨c, rfl, hco, hb1⟩; have G1 := (hb1.block _ (by omega)).trans H1.out; have G2 := (hb1.block _ (by omega)).trans H2.out; have d1 := cell_of_one G1; have d2 := cell_of_one G2; have K1 := Lib.hid G1; have K2 := Lib.hid G2; clear G1 G2; have hown1 := below_own hown hb1 (Nat.le_refl _); have hrows1 := hrows.below hb1; have hB1 := hB.trans (hb1.mono hsz)))
        go_quiet (fail)
        go_wp2
        rw [Exit.noGoto_ret]
        go_ret2
        exact ⟨v, cap, l, cells, rfl, hW.out, hown1, hrows1, below_drewN hB1 _⟩
      · obtain ⟨b, off, rfl⟩ := had (by omega)
        have hd := hrw.piece p (xs.length - p) (cap - p) (by8 (xs.drop p)) (by omega) (by omega) (by omega) (by simp [by8, List.map_drop]; rw [List.take_of_length_le (by simp)])
        rw [Nat.mul_one] at hd
        go_wp2_with (first | (go_at_call 42; with_reducible refine (popen_at (.slice (some ⟨b, off + p, none⟩) (xs.length - p) (cap - p)) (xs.drop p) _ hww (by rw [List.length_drop]; exact hd) (byt_drop Hy.out p) (by rw [List.length_drop]; omega) ho).mono ?_; rintro e w1 ⟨c, rfl, hco, hb1⟩; have G1 := (hb1.block _ (by omega)).trans H1.out; have G2 := (hb1.block _ (by omega)).trans H2.out; have d1 := cell_of_one G1; have d2 := cell_of_one G2; have K1 := Lib.hid G1; have K2 := Lib.hid G2; clear G1 G2; have hown1 := below_own hown hb1 (Nat.le_refl _); have hrows1 := hrows.below hb1; have hB1 := hB.trans (hb1.mono hsz)))
        go_quiet (fail)
        go_wp2
        rw [Exit.noGoto_ret]
        go_ret2
        exact ⟨v, p, l, cells, rfl, hW.out, hown1, hrows1, below_drewN hB1 _⟩
end Go.Proofs.YtjinjlfocjohhaaDoor
