/-
  Plans: what lacks (the program's Lacks).
-/
import Derived.Test.YtipdggjalhjpnabSets
import Derived.Maps.AppendAt
namespace Go.Proofs.Ytipdggjalhjpnab
open Go.RowKit Go.Shelf
attribute [local go_sem] Oper.semAt_some
set_option linter.unusedSimpArgs false
set_option linter.unusedVariables false

def snV (x : Sn) : Value := .agg #[.int .i64 x.site, .int .i64 x.origin, .int .u64 x.seq]
theorem snV_in {l : List Sn} {x : Sn} : isIn l x = true ↔ snV x ∈ l.map snV := by
  rw [isIn_iff, List.mem_map]
  constructor
  · intro h; exact ⟨x, h, rfl⟩
  · rintro ⟨y, hy, he⟩
    have : y = x := by
      cases x; cases y
      simpa [snV] using he
    exact this ▸ hy

theorem info53 : (Try.prog.info? 53).map (fun i => (i.zero, i.size, i.bytes)) = some (some (.agg #[.int .i64 0, .int .i64 0, .int .u64 0]), 3, 24) := by kernel_rfl
/-- What lacks of these. -/
def lackS (seen : List Sn) (l : List (Pub × Int)) : List Sn := (l.map fun x => (⟨x.2, x.1.origin, x.1.seq⟩ : Sn)).filter fun x => !isIn seen x
theorem lackS_snoc (seen : List Sn) (l : List (Pub × Int)) (p : Pub) (n : Int) : lackS seen (l ++ [(p, n)]) = if isIn seen ⟨n, p.origin, p.seq⟩ = true then lackS seen l else lackS seen l ++ [⟨n, p.origin, p.seq⟩] := by
  unfold lackS
  rw [List.map_append, List.filter_append]
  cases h : isIn seen ⟨n, p.origin, p.seq⟩ <;> simp [h]
theorem lackS_len (seen : List Sn) (l : List (Pub × Int)) : (lackS seen l).length ≤ l.length := by
  have := List.length_filter_le (fun x => !isIn seen x) (l.map fun x => (⟨x.2, x.1.origin, x.1.seq⟩ : Sn))
  simpa [lackS] using this
theorem lackS_seq (S : Int) (es : List (Int × Int)) (H : Int) (seen : List Sn) : ∀ l : List Pub, lackS seen (seqL S es H l) = lacksL S es H seen l
  | [] => rfl
  | p :: l => by
    have ih := lackS_seq S es H seen l
    unfold lackS seqL lacksL at ih ⊢
    rw [List.flatMap_cons, List.map_append, List.filter_append, ih, List.flatMap_cons]
    congr 1
    unfold lackOf
    rw [List.map_map]
    rfl
theorem KeepI.grown {Fx : Nat → Prop} {D : Nat} {W W' : World} (hF : ∀ k, Fx k → k < D) (hD : D ≤ W.heap.size) {v : Value} {n : Nat} {xs : List Value} (ho : W.ownsRow D 53 3 v n xs) (hg : W.grownBy W' v.ownBlock) : KeepI Fx D W W' :=
  ⟨hg.size, fun k hk => hg.block k (by have := hF k hk; omega) (fun e => by have := (ho.lt k e.symm).1; have := hF k hk; omega),
   fun k cs e f hk hc he => (hg.block k (lt_of_block hc) (fun h => own_ne3 ho hc (by rcases he with rfl | rfl <;> decide) h.symm)).trans hc⟩

/-- What the loop of Lacks holds between two rounds. -/
def LackI (S : Int) (ev : Value) (es : List (Int × Int)) (H : Int) (seen : List Sn) (w : World) (q D : Nat) (pre : List (Pub × Int)) (W : World) : Prop :=
  ∃ u, W.heap[q]? = some (.cells #[u] 47 (0, 0)) ∧ W.ownsRow D 53 3 u (lackS seen pre).length ((lackS seen pre).flatMap Sn.cs) ∧ World.isSet W KeySn (w.heap.size + 1) seen.length (seen.map snV) ∧ W.heap[w.heap.size + 1 + 1]? = some (.cells #[.map (some (w.heap.size + 1))] 87 (0, 0)) ∧ Below w.heap.size w W ∧ D ≤ W.heap.size
theorem own_from {base : Nat} {e : TypeId} {size n : Nat} {v : Value} {xs : List Value} {W W' : World} {row : Option Nat} {B : Nat} (h : W.ownsRow base e size v n xs) (hg : W.grownBy W' row) (hr : ∀ r, row = some r → B ≤ r ∧ ∃ o : Obj, W.heap[r]? = some o ∧ o.isCells = false) : W'.ownsRow base e size v n xs := by
  refine ⟨h.1, ?_⟩
  rcases h.2 with hn | ⟨g, cap, cur, h1, h2, h3, h4⟩
  · exact .inl hn
  · exact .inr ⟨g, cap, cur, h1, h2, cel_grown h3 hg hr, h4⟩
theorem lackI_own (S : Int) (ev : Value) (es : List (Int × Int)) (H : Int) (seen : List Sn) (w : World) (q : Nat) {D : Nat} (hq : w.heap.size + 3 ≤ q) (hD : q < D) : OwnFrom D (LackI S ev es H seen w q D) := by
  rintro s W W' row ⟨u, h1, h2, h3, h4, h5, h6⟩ hg hr
  exact ⟨u, cel_grown h1 hg hr, own_from h2 hg hr, isSet_kept h3 fun o ho => blk_grown ho hg hr (by omega), cel_grown h4 hg hr, h5.grown hg h5.size (fun k e => by have := (hr k e).1; omega), Nat.le_trans h6 hg.size⟩
def LackA (F : Nat → Pub × Int → Act) (D : Nat) (x : Pub × Int) (a' : Act) (W : World) : Prop :=
  ∃ Bx, D ≤ Bx ∧ W.heap[Bx]? = some (.cells #[.int .i64 x.1.origin, .int .u64 x.1.seq, .bool x.1.fed] 62 (0, 0)) ∧ a' = F Bx x
theorem lackA_own (F : Nat → Pub × Int → Act) (D : Nat) (x : Pub × Int) (a' : Act) : OwnFrom D (fun (_ : Unit) W => LackA F D x a' W) := by
  rintro s W W' row ⟨Bx, h1, h2, h3⟩ hg hr
  exact ⟨Bx, h1, cel_grown h2 hg hr, h3⟩

set_option maxRecDepth 100000 in
set_option maxHeartbeats 2000000 in
theorem lacks_any (S H : Int) (ev v sv : Value) (es : List (Int × Int)) (xs : List Pub) (seen : List Sn) (w : World) (hx : xs.length ≤ 1000) (hsn : seen.length ≤ 2000) (hr : Rd w 2 ev es.length (edgeCells es)) (hv : Rd w 3 v xs.length (xs.flatMap Pub.cs)) (hs : Rd w 3 sv seen.length (seen.flatMap Sn.cs)) :
    Calls Try.prog 29 #[topV S ev H, v, sv] w fun e w' => ∃ u, e = .returned u ∧ w'.ownsRow w.heap.size 53 3 u (lacksL S es H seen xs).length ((lacksL S es H seen xs).flatMap Sn.cs) ∧ Below w.heap.size w w' := by
  obtain ⟨va, vc, rfl⟩ := rd_slice hv
  obtain ⟨sa, sc, rfl⟩ := rd_slice hs
  have hmm : ∀ w : World, (Instr.makeMap 87 none).run Try.prog w = .ok (.map (some w.heap.size)) (w.alloc (.map #[] 0)) := fun w => run_makeMap _ w
  unfold topV
  refine (callsIn_wide (n := 9)).1 ?_
  refine callsIn_of_wp_marks Try.func29 rfl trivial ?_ rfl
  simp only [Try.ntmps29, List.size_toArray, List.length_cons, List.length_nil, Nat.reduceAdd, Nat.reduceSub, Array.replicate_succ, Array.replicate_zero, List.push_toArray, List.append_toArray, List.nil_append, List.cons_append]
  gi_wp2
  gi_loopw [9, 17] (fun _ ix wr => ∃ i : Nat, i ≤ seen.length ∧ ix = .int .i64 (i : Int) ∧ World.isSet wr KeySn (w.heap.size + 1) i ((seen.take i).map snV) ∧ wr.heap[w.heap.size]? = some (.cells #[.int .i64 S, ev, .int .i64 H] 24 (0, 0)) ∧ wr.heap[w.heap.size + 1 + 1]? = some (.cells #[.map (some (w.heap.size + 1))] 87 (0, 0)) ∧ Below w.heap.size w wr) (fun _ ix _ => seen.length - (intOf ix).toNat)
  case atStart =>
    refine ⟨0, by omega, rfl, ?_, ?_, ?_, ?_⟩
    · have := isSet_made (w.alloc (.cells #[.int .i64 S, ev, .int .i64 H] 24)) KeySn
      rw [World.size_alloc] at this
      exact isSet_kept this fun o ho => (Below.heap_alloc _ _ _ (lt_of_block ho)).trans ho
    · rw [Below.heap_alloc _ _ _ (by simp; omega), Below.heap_alloc _ _ _ (by simp), heap_alloc_new]
    · rw [heap_alloc_at]; simp
    · exact (((Below.refl _ _).alloc (Nat.le_refl _) _).alloc (by simp) _).alloc (by simp; omega) _
  case round =>
    rename World => wq
    obtain ⟨i, hi, rfl, hset, hb0, hb2, hbl⟩ := hrel
    have hqz := hbl.size
    have hlen : seen.length ≤ 9223372036854775807 := by omega
    by_cases hil : i < seen.length
    · obtain ⟨⟨x, o, s⟩, hxi⟩ : ∃ x, seen[i]? = some x := ⟨_, List.getElem?_eq_getElem hil⟩
      obtain ⟨b, off, rfl, hbb, d0, d1, d2⟩ := sn_at (hs.keep hbl) hxi
      simp only at d0 d1 d2
      have hsz := isSet_lt hset
      have hz2 := lt_of_block hb2
      obtain ⟨w2, hrun, hset2, hgr⟩ := isSet_update (e := 4) (isSet_kept hset (w' := wq.alloc (.cells #[.int .i64 x, .int .i64 o, .int .u64 s] 53)) fun o ho => (Below.heap_alloc _ _ _ (lt_of_block ho)).trans ho) set53 Try.underlying87 (by unfold maxLen; omega) (x := .agg #[.int .i64 x, .int .i64 o, .int .u64 s]) ⟨_, _, _, rfl⟩
      have e0 := cell_of_row _ _ 0 _ _ _ hb2
      have Hset2 := Lib.hid hset2
      have Hgr := Lib.hid hgr
      have Hxi := Lib.hid hxi
      clear hset2 hgr hxi
      gi_wp2
      go_roundw
      case rel =>
        refine ⟨i + 1, by omega, by go_num, ?_, ?_, ?_, ?_⟩
        · rw [List.take_add_one, Hxi.out]; simpa [snV] using Hset2.out
        · exact (Hgr.out.block _ (by simp; omega) (by simp)).trans ((Below.heap_alloc _ _ _ (lt_of_block hb0)).trans hb0)
        · exact (Hgr.out.block _ (by simp; omega) (by simp)).trans ((Below.heap_alloc _ _ _ (lt_of_block hb2)).trans hb2)
        · exact (hbl.alloc hqz _).grown Hgr.out (by simp; omega) (fun k hk => by simp at hk; omega)
      case measure => simp [intOf]; omega
    · obtain rfl : i = seen.length := by omega
      rw [List.take_length] at hset
      have Hset := Lib.hid hset
      have Hb2 := Lib.hid hb2
      obtain ⟨c0, c1, c2⟩ := cells3 hb0
      have hz0 := lt_of_block hb0
      have hz2 := lt_of_block hb2
      clear hset hb2
      gi_wp2_with (refine ⟨trivial, ?_⟩; gi_at_call 47; refine (callsIn_wide.2 (everywhere_any _ _ _ _ _ _ _)).mono ?_; rintro e w' ⟨rfl, rfl⟩)
      have hq3 : w.heap.size + 3 ≤ wq.heap.size := by omega
      have Hbl := Lib.hid hbl
      clear hbl hb0 c0 c1 c2
      have k1 : (((wq.alloc (.cells #[.slice none 0 0] 47)).alloc (.cells #[.int .i64 S, ev, .int .i64 H] 24)).alloc (.cells #[.slice va xs.length vc] 46)).heap[wq.heap.size]? = some (.cells #[.slice none 0 0] 47 (0, 0)) := by
        rw [Below.heap_alloc _ _ _ (by simp; omega), Below.heap_alloc _ _ _ (by simp), heap_alloc_new]
      have k3 : (((wq.alloc (.cells #[.slice none 0 0] 47)).alloc (.cells #[.int .i64 S, ev, .int .i64 H] 24)).alloc (.cells #[.slice va xs.length vc] 46)).heap[wq.heap.size + 1]? = some (.cells #[.int .i64 S, ev, .int .i64 H] 24 (0, 0)) := by
        rw [Below.heap_alloc _ _ _ (by simp), heap_alloc_at]; simp
      have k4 : (((wq.alloc (.cells #[.slice none 0 0] 47)).alloc (.cells #[.int .i64 S, ev, .int .i64 H] 24)).alloc (.cells #[.slice va xs.length vc] 46)).heap[wq.heap.size + 1 + 1]? = some (.cells #[.slice va xs.length vc] 46 (0, 0)) := by
        rw [heap_alloc_at]; simp
      have k5 : Below wq.heap.size wq (((wq.alloc (.cells #[.slice none 0 0] 47)).alloc (.cells #[.int .i64 S, ev, .int .i64 H] 24)).alloc (.cells #[.slice va xs.length vc] 46)) :=
        (((Below.refl _ _).alloc (Nat.le_refl _) _).alloc (by simp) _).alloc (by simp; omega) _
      have k6 : (((wq.alloc (.cells #[.slice none 0 0] 47)).alloc (.cells #[.int .i64 S, ev, .int .i64 H] 24)).alloc (.cells #[.slice va xs.length vc] 46)).heap.size = wq.heap.size + 3 := by simp
      generalize (((wq.alloc (.cells #[.slice none 0 0] 47)).alloc (.cells #[.int .i64 S, ev, .int .i64 H] 24)).alloc (.cells #[.slice va xs.length vc] 46)) = W0 at k1 k3 k4 k5 k6 ⊢
      have hBW : Below w.heap.size w W0 := Hbl.out.trans (k5.mono hqz)
      have hSW : World.isSet W0 KeySn (w.heap.size + 1) seen.length (seen.map snV) := isSet_kept Hset.out fun o ho => (k5.block _ (lt_of_block ho)).trans ho
      have hbW : W0.heap[w.heap.size + 1 + 1]? = some (.cells #[.map (some (w.heap.size + 1))] 87 (0, 0)) := (k5.block _ (lt_of_block Hb2.out)).trans Hb2.out
      have hFx : ∀ k, (k < w.heap.size ∨ k = wq.heap.size + 1 ∨ k = wq.heap.size + 1 + 1) → k < W0.heap.size := fun k hk => by omega
      have hqW : wq.heap.size < W0.heap.size := by omega
      have hnW : w.heap.size ≤ W0.heap.size := by omega
      have hnq : w.heap.size + 1 + 1 < W0.heap.size := by omega
      have hqF : ¬ (wq.heap.size < w.heap.size ∨ wq.heap.size = wq.heap.size + 1 ∨ wq.heap.size = wq.heap.size + 1 + 1) := by omega
      have hne1 : w.heap.size + 1 ≠ wq.heap.size := by omega
      have hne2 : w.heap.size + 1 + 1 ≠ wq.heap.size := by omega
      have HFx := Lib.hid hFx
      clear k6 hFx
      refine wpIn_rangeFunc_ownH rfl (by omega) (gf := 50) (lb := #[.pointer (some ⟨wq.heap.size + 1 + 1, 0, none⟩), .pointer (some ⟨wq.heap.size + 1, 0, none⟩)]) rfl trivial (enters_of Try.func50 (by kernel_rfl) rfl)
        (every_stops S H ev (.slice va xs.length vc) es xs w W0 hx _ (wq.heap.size + 1 + 1) (wq.heap.size + 1) (by omega) (fun k => k < w.heap.size ∨ k = wq.heap.size + 1 ∨ k = wq.heap.size + 1 + 1) (fun k hk => .inl hk) (.inr (.inr rfl)) (.inr (.inl rfl)) hBW hv hr k4 k3)
        KeepI.trans (fun W l o o' hl h hc _ => KeepI.putObj HFx.out W l o o' hl h hc) (Below.refl _ _) (fun _ => rfl)
        (LackI S ev es H seen w wq.heap.size W0.heap.size) (fun _ _ _ => False) (lackI_own S ev es H seen w _ hq3 hqW) (fun _ _ _ _ _ hs _ _ => hs) ⟨_, k1, World.ownsRow_nil _ _ _ _, hSW, hbW, hBW, Nat.le_refl _⟩
        (LackA (fun Bx x => { tmps := #[.agg #[.int .i64 S, ev, .int .i64 H], .slice va xs.length vc, .slice sa seen.length sc, .pointer (some ⟨w.heap.size, 0, none⟩), undef, undef, .slice none 0 0, .pointer (some ⟨w.heap.size + 1 + 1, 0, none⟩), undef, u9, .pointer (some ⟨wq.heap.size, 0, none⟩), .pointer (some ⟨Bx, 0, none⟩), .int .i64 x.2, undef, .map (some (w.heap.size + 1)), .slice sa seen.length sc, .int .i64 seen.length, .int .i64 seen.length, .bool false, u19, u20, u21, u22, u23, .agg #[.int .i64 S, ev, .int .i64 H], .slice va xs.length vc, .func (.func 50) #[] #[.pointer (some ⟨wq.heap.size + 1 + 1, 0, none⟩), .pointer (some ⟨wq.heap.size + 1, 0, none⟩)], .agg #[.int .i64 x.1.origin, .int .u64 x.1.seq, .bool x.1.fed], .int .i64 x.2, undef, undef, undef, undef, undef, undef, undef, undef, undef, undef, undef, undef, undef], defers := [] }) W0.heap.size)
        (fun x a' => lackA_own _ _ _ _) ?assign ?body ?done ?stop
      case assign =>
        rintro l pre ⟨⟨o, s, f⟩, n⟩ W K ⟨u, h1, h2, h3, h4, h5, h6⟩ hK
        have hbA := (Below.refl W.heap.size W).alloc (Nat.le_refl _) (.cells #[.int .i64 o, .int .u64 s, .bool f] 62)
        dsimp only [encP]
        gi_wp2
        exact hK _ _ ((KeepsOthers.alloc _ _).from _) (KeepI.of_below HFx.out h6 hbA) ⟨u, (hbA.block _ (lt_of_block h1)).trans h1, h2.alloc _, isSet_kept h3 fun o ho => (hbA.block _ (lt_of_block ho)).trans ho, (hbA.block _ (lt_of_block h4)).trans h4, h5.trans (hbA.mono h5.size), Nat.le_trans h6 hbA.size⟩ ⟨W.heap.size, h6, heap_alloc_new _ _, rfl⟩
      case body =>
        rintro l pre ⟨⟨o, s, f⟩, n⟩ a' W hl ⟨r, hr'⟩ ⟨u, h1, h2, h3, h4, h5, h6⟩ ⟨Bx, hBx, bX, rfl⟩ hlt
        have hsl := seqL_len S es H xs
        have hle := lackS_len seen pre
        have hms := Lib.hid (lackS_snoc seen pre ⟨o, s, f⟩ n)
        simp only at bX hms ⊢
        obtain ⟨b0, b1, b2⟩ := cells3 bX
        have e0 := cell_of_row _ _ 0 _ _ _ h4
        have d0 := cell_of_row _ _ 0 _ _ _ h1
        have df : W.frozen? ⟨wq.heap.size, 0, none⟩ = false := by simp [World.frozen?, h1]
        have h1z := lt_of_block h1
        have h4z := lt_of_block h4
        have hbz := lt_of_block bX
        have H3 := Lib.hid (isSet_kept h3 (w' := W.alloc (.cells #[.int .i64 n, .int .i64 o, .int .u64 s] 53)) fun o ho => (Below.heap_alloc _ _ _ (lt_of_block ho)).trans ho)
        have hlk := isSet_lookup H3.out set53 Try.underlying87 (by kernel_rfl) (x := .agg #[.int .i64 n, .int .i64 o, .int .u64 s]) ⟨_, _, _, rfl⟩ (z := isIn seen ⟨n, o, s⟩) snV_in
        have hm2 : (lackS seen pre).length ≤ 9000 := by omega
        have H1 := Lib.hid h1
        have H2 := Lib.hid h2
        have H4 := Lib.hid h4
        have H5 := Lib.hid h5
        generalize hmS : lackS seen pre = A at hle hms hm2 H2
        generalize hz : isIn seen ⟨n, o, s⟩ = z at hlk hms
        have H3' := Lib.hid h3
        clear hmS hz h1 h2 h3 h4 h5 bX
        have hbA := Lib.hid ((Below.refl W.heap.size W).alloc (Nat.le_refl _) (.cells #[.int .i64 n, .int .i64 o, .int .u64 s] 53))
        cases z with
        | true =>
          have hmt := Lib.hid (show lackS seen (pre ++ [((⟨o, s, f⟩ : Pub), n)]) = A by rw [hms.out, if_pos rfl])
          gi_wp2
          exact ⟨(KeepsOthers.alloc _ _).from _, KeepI.of_below HFx.out h6 hbA.out, ⟨u, (hbA.out.block _ h1z).trans H1.out, by rw [hmt.out]; exact H2.out.alloc _, H3.out, (hbA.out.block _ h4z).trans H4.out, H5.out.trans (hbA.out.mono H5.out.size), Nat.le_trans h6 hbA.out.size⟩⟩
        | false =>
          have hmt := Lib.hid (show lackS seen (pre ++ [((⟨o, s, f⟩ : Pub), n)]) = A ++ [⟨n, o, s⟩] by rw [hms.out, if_neg (by decide)])
          obtain ⟨i0, hi0, hi1, hi2, hi3⟩ := info_parts info53
          have hnews : ∀ (j : Nat) (v : Value), [Value.int .i64 n, .int .i64 o, .int .u64 s][j]? = some v → ((W.alloc (.cells #[.int .i64 n, .int .i64 o, .int .u64 s] 53)).alloc (.cells #[.int .i64 n, .int .i64 o, .int .u64 s] 53)).cell? ((⟨W.heap.size + 1, 0, none⟩ : Addr).add j) = some v := by
            intro j v hj
            have := cell_of_row ((W.alloc (.cells #[.int .i64 n, .int .i64 o, .int .u64 s] 53)).alloc (.cells #[.int .i64 n, .int .i64 o, .int .u64 s] 53)) (W.heap.size + 1) j #[.int .i64 n, .int .i64 o, .int .u64 s] 53 (0, 0) (by rw [heap_alloc_at]; simp)
            rcases j with _ | _ | _ | j <;> simp at hj
            all_goals (subst hj; simp [Addr.add])
          have Hnews := Lib.hid hnews
          have hbB := Lib.hid (hbA.out.trans ((Below.refl (W.heap.size + 1) _).alloc (by simp) (.cells #[.int .i64 n, .int .i64 o, .int .u64 s] 53) |>.mono (Nat.le_succ _)))
          clear hnews
          have hqb := Lib.hid ((hbB.out.block _ h1z).trans H1.out)
          have hnr := Lib.hid (own_ne3 ((H2.out.alloc (.cells #[.int .i64 n, .int .i64 o, .int .u64 s] 53)).alloc (.cells #[.int .i64 n, .int .i64 o, .int .u64 s] 53)) hqb.out (by decide))
          gi_wp2_with (first | (gi_at_builtin; refine wpListIn_append_own _ rfl _ _ 47 rfl W0.heap.size 53 i0 _ 3 24 Try.underlying47 hi0 hi1 hi2 hi3 rfl (by decide) u A.length _ rfl ((H2.out.alloc _).alloc _) _ 1 1 [.int .i64 n, .int .i64 o, .int .u64 s] rfl rfl Hnews.out (by simp [Value.oneCell']) (by unfold maxLen; omega) (by omega) (by simp; omega) ?_; intro v' w1 hown' hgrow _; obtain ⟨g', cap', rfl⟩ := ownsRow_succ hown'; have hq1 := (hgrow.block wq.heap.size (by simp; omega) (fun e => hnr.out e.symm)).trans hqb.out; have q0 := cell_of_row _ _ 0 _ _ _ hq1; have qf : w1.frozen? ⟨wq.heap.size, 0, none⟩ = false := by simp [World.frozen?, hq1]))
          have hkI : KeepI (fun k => k < w.heap.size ∨ k = wq.heap.size + 1 ∨ k = wq.heap.size + 1 + 1) W0.heap.size W (w1.setCell ⟨wq.heap.size, 0, none⟩ (.slice (some ⟨g', 0, none⟩) (A.length + 1) cap')) :=
            ((KeepI.of_below HFx.out h6 hbB.out).trans (KeepI.grown HFx.out (by simp; omega) ((H2.out.alloc _).alloc _) hgrow)).trans (KeepI.set hqF hqW _)
          refine ⟨?_, hkI, _, heap_setCell_same _ _ _ _ _ _ hq1, ?_, ?_, ?_, ?_, Nat.le_trans h6 hkI.1⟩
          · refine (((KeepsOthers.alloc W _).trans (KeepsOthers.alloc _ _)).trans ((KeepsOthers.of_grownBy hgrow fun j ob ej hj => ?_).trans (KeepsOthers.setCell _ _ _))).from _
            rcases ((H2.out.alloc (.cells #[.int .i64 n, .int .i64 o, .int .u64 s] 53)).alloc (.cells #[.int .i64 n, .int .i64 o, .int .u64 s] 53)).2 with ⟨rfl, _⟩ | ⟨g, cap, cur, rfl, _, hgb, _⟩
            · simp [Value.ownBlock] at ej
            · obtain rfl : g = j := by simpa [Value.ownBlock] using ej
              rw [hgb] at hj; cases hj; rfl
          · rw [hmt.out, List.flatMap_append, List.length_append]
            refine hown'.kept (grownBy_setCell' w1 wq.heap.size _) (.inr fun e => ?_)
            exact own_ne3 hown' hq1 (by decide) e
          · refine isSet_kept H3'.out fun ob ho => ?_
            have hlo := (Array.getElem?_eq_some_iff.1 ho).1
            rw [Below.heap_setCell _ _ _ _ (by simp; omega)]
            refine (hgrow.block _ (by simp; omega) fun e => ?_).trans ((hbB.out.block _ hlo).trans ho)
            have := (((H2.out.alloc (.cells #[.int .i64 n, .int .i64 o, .int .u64 s] 53)).alloc (.cells #[.int .i64 n, .int .i64 o, .int .u64 s] 53)).lt _ e.symm).1
            omega
          · rw [Below.heap_setCell _ _ _ _ (by simp; omega)]
            have hb4 := (hbB.out.block _ h4z).trans H4.out
            exact (hgrow.block _ (by simp; omega) (fun e => own_ne3 ((H2.out.alloc _).alloc _) hb4 (by decide) e.symm)).trans hb4
          · refine ((H5.out.trans (hbB.out.mono H5.out.size)).grown hgrow (by simp; have := H5.out.size; omega) fun j ej => ?_).setCell (by simp; omega) _
            have := (((H2.out.alloc (.cells #[.int .i64 n, .int .i64 o, .int .u64 s] 53)).alloc (.cells #[.int .i64 n, .int .i64 o, .int .u64 s] 53)).lt _ ej).1
            omega
      case done =>
        rintro D ys W hD rfl ⟨u, h1, h2, h3, h4, h5, h6⟩ hK
        rw [lackS_seq] at h2
        have c0 := cell_of_row _ _ 0 _ _ _ h1
        have H5 := Lib.hid (h5.trans (belowK_b (w := w) (Nat.le_refl _) W D _ (.deferred none) (by omega) hK rfl rfl))
        have H2 := Lib.hid (own_base (ownsRow_putObj h2 (.deferred none) hK rfl) hnW)
        clear h1 h2
        gi_wp2
        refine ⟨by simp, .inl ⟨_, _, rfl, run_takeDeferred hK, ?_⟩⟩
        exact ⟨_, results_tmp rfl _ _ _, u, rfl, H2.out, H5.out⟩
      case stop =>
        rintro D c pre W _ _ h _
        exact h.elim
end Go.Proofs.Ytipdggjalhjpnab
