/-
  Plans: what lacks (the reference's Lacks).
-/
import Derived.Test.YtipdggjalhjpnabPlan3
namespace Go.Proofs.Ytipdggjalhjpnab
open Go.RowKit
set_option linter.unusedSimpArgs false
set_option linter.unusedVariables false

theorem info54 : (Try.prog.info? 54).map (fun i => (i.zero, i.size, i.bytes)) = some (some (.agg #[.int .i64 0, .int .i64 0, .int .u64 0]), 3, 24) := by kernel_rfl
def eqSn (x y : Sn) : Bool := x.site == y.site && (x.origin == y.origin && x.seq == y.seq)
theorem eqSn_iff {x y : Sn} : eqSn x y = true ↔ x = y := by
  cases x; cases y
  simp [eqSn]
/-- Is it among these? -/
def isIn (l : List Sn) (x : Sn) : Bool := l.any fun y => eqSn x y
theorem isIn_iff {l : List Sn} {x : Sn} : isIn l x = true ↔ x ∈ l := by
  unfold isIn
  rw [List.any_eq_true]
  constructor
  · rintro ⟨y, hy, h⟩; rw [eqSn_iff.1 h]; exact hy
  · intro h; exact ⟨x, h, eqSn_iff.2 rfl⟩
theorem isIn_snoc (l : List Sn) (x y : Sn) : isIn (l ++ [y]) x = (isIn l x || eqSn x y) := by simp [isIn]
/-- What lacks of one, at its sites. -/
def lackOf (seen : List Sn) (p : Pub) (sites : List Int) : List Sn := (sites.map fun n => ⟨n, p.origin, p.seq⟩).filter fun x => !isIn seen x
def lacksL (S : Int) (es : List (Int × Int)) (H : Int) (seen : List Sn) (l : List Pub) : List Sn := l.flatMap fun p => lackOf seen p (sitesL S es H p)
theorem lackOf_snoc (seen : List Sn) (p : Pub) (l : List Int) (n : Int) : lackOf seen p (l ++ [n]) = if isIn seen ⟨n, p.origin, p.seq⟩ = true then lackOf seen p l else lackOf seen p l ++ [⟨n, p.origin, p.seq⟩] := by
  unfold lackOf
  rw [List.map_append, List.filter_append]
  cases h : isIn seen ⟨n, p.origin, p.seq⟩ <;> simp [h]
theorem lackOf_len (seen : List Sn) (p : Pub) (l : List Int) : (lackOf seen p l).length ≤ l.length := by
  unfold lackOf
  have := List.length_filter_le (fun x => !isIn seen x) (l.map fun n => (⟨n, p.origin, p.seq⟩ : Sn))
  simpa using this
theorem lacksL_snoc (S : Int) (es : List (Int × Int)) (H : Int) (seen : List Sn) (l : List Pub) (p : Pub) : lacksL S es H seen (l ++ [p]) = lacksL S es H seen l ++ lackOf seen p (sitesL S es H p) := by simp [lacksL]
theorem lacksL_len (S : Int) (es : List (Int × Int)) (H : Int) (seen : List Sn) : ∀ l : List Pub, (lacksL S es H seen l).length ≤ l.length * 9
  | [] => by simp [lacksL]
  | p :: l => by
    have h1 := lacksL_len S es H seen l
    have h2 := lackOf_len seen p (sitesL S es H p)
    have h3 := sites_len S es H p
    unfold lacksL at h1 ⊢
    rw [List.flatMap_cons, List.length_append, List.length_cons, Nat.add_mul]
    omega

/-- All blocks but those of one type are as they were. -/
def KeepNot (t : TypeId) (w0 w : World) : Prop := w0.heap.size ≤ w.heap.size ∧ ∀ (k : Nat) (cs : Array Value) (e : TypeId) (f : Nat × Nat), w0.heap[k]? = some (Obj.cells cs e f) → e ≠ t → w.heap[k]? = some (Obj.cells cs e f)
theorem KeepNot.refl (t : TypeId) (w : World) : KeepNot t w w := ⟨Nat.le_refl _, fun _ _ _ _ h _ => h⟩
theorem KeepNot.below {t : TypeId} {w0 w w' : World} (h : KeepNot t w0 w) (hb : Below w.heap.size w w') : KeepNot t w0 w' :=
  ⟨Nat.le_trans h.1 hb.size, fun k cs e f hk he => by have := h.2 k cs e f hk he; exact (hb.block k (lt_of_block this)).trans this⟩
theorem KeepNot.alloc {t : TypeId} {w0 w : World} (h : KeepNot t w0 w) (o : Obj) : KeepNot t w0 (w.alloc o) := h.below ((Below.refl _ _).alloc (Nat.le_refl _) _)
theorem KeepNot.grown {t : TypeId} {w0 w w' : World} (h : KeepNot t w0 w) {base size n : Nat} {v : Value} {xs : List Value} (ho : w.ownsRow base t size v n xs) (hg : w.grownBy w' v.ownBlock) : KeepNot t w0 w' :=
  ⟨Nat.le_trans h.1 hg.size, fun k cs e f hk he => by
    have h1 := h.2 k cs e f hk he
    refine (hg.block k (lt_of_block h1) (fun hv => ?_)).trans h1
    rcases ho.2 with ⟨rfl, _⟩ | ⟨g, cap, cur, rfl, _, hgb, _⟩
    · simp [Value.ownBlock] at hv
    · obtain rfl : k = g := by simpa [Value.ownBlock] using hv
      rw [h1] at hgb
      simp at hgb
      exact he hgb.2.1⟩
theorem own_keepNot {t : TypeId} {w0 w : World} (hk : KeepNot t w0 w) {base : Nat} {e : TypeId} {size n : Nat} {v : Value} {xs : List Value} (h : w0.ownsRow base e size v n xs) (he : e ≠ t) : w.ownsRow base e size v n xs := by
  refine ⟨h.1, ?_⟩
  rcases h.2 with hn | ⟨g, cap, cur, h1, h2, h3, h4⟩
  · exact .inl hn
  · exact .inr ⟨g, cap, cur, h1, h2, hk.2 _ _ _ _ h3 he, h4⟩

theorem own_ne3 {w : World} {base size : Nat} {e t : TypeId} {v : Value} {n : Nat} {xs : List Value} (h : w.ownsRow base e size v n xs) {B : Nat} {cs : Array Value} {f : Nat × Nat} (hB : w.heap[B]? = some (.cells cs t f)) (het : e ≠ t) : v.ownBlock ≠ some B := by
  intro hv
  rcases h.2 with ⟨rfl, _⟩ | ⟨g, cap, cur, rfl, _, hg, _⟩
  · cases hv
  · obtain rfl : g = B := by simpa [Value.ownBlock] using hv
    rw [hB] at hg
    simp at hg
    exact het hg.2.1.symm
theorem TopIn.next2 {B : Nat} {S H : Int} {ev : Value} {es : List (Int × Int)} {w0 W W1 : World} (hr : Rd w0 2 ev es.length (edgeCells es)) (h : TopIn B S H ev es w0 W) {base size n : Nat} {e : TypeId} {v : Value} {xs : List Value} (hg : W.grownBy W1 v.ownBlock) (ho : W.ownsRow base e size v n xs) (he : e ≠ 24) (hb : w0.heap.size ≤ base) : TopIn B S H ev es w0 W1 := by
  have hB : Below w0.heap.size w0 W1 := h.2.2.grown hg h.size (fun k hk => Nat.le_trans hb (ho.lt k hk).1)
  exact ⟨(hg.block B h.lt (fun e2 => own_ne3 ho h.1 he e2.symm)).trans h.1, hr.keep hB, hB⟩

set_option maxRecDepth 8000 in
set_option maxHeartbeats 1600000 in
theorem rlacks_any (S H : Int) (ev v sv : Value) (es : List (Int × Int)) (xs : List Pub) (seen : List Sn) (w : World) (hx : xs.length ≤ 1000) (hsn : seen.length ≤ 2000) (hr : Rd w 2 ev es.length (edgeCells es)) (hv : Rd w 3 v xs.length (xs.flatMap Pub.cs)) (hs : Rd w 3 sv seen.length (seen.flatMap Sn.cs)) :
    Calls Try.prog 30 #[topV S ev H, v, sv] w fun e w' => ∃ u, e = .returned u ∧ w'.ownsRow w.heap.size 54 3 u (lacksL S es H seen xs).length ((lacksL S es H seen xs).flatMap Sn.cs) ∧ Below w.heap.size w w' := by
  obtain ⟨va, vc, rfl⟩ := rd_slice hv
  obtain ⟨sa, sc, rfl⟩ := rd_slice hs
  have hT0 := Lib.hid (TopIn.mk1 (S := S) (H := H) w hr)
  unfold topV
  go_enter Try.func30, Try.ntmps30
  go_wp2
  go_loopw [7, 9, 11, 12, 13, 15, 18] (fun uv _ _ _ _ _ ix wr => ∃ i : Nat, i ≤ xs.length ∧ ix = .int .i64 (i : Int) ∧ wr.ownsRow w.heap.size 54 3 uv (lacksL S es H seen (xs.take i)).length ((lacksL S es H seen (xs.take i)).flatMap Sn.cs) ∧ TopIn w.heap.size S H ev es w wr) (fun _ _ _ _ _ _ ix _ => xs.length - (intOf ix).toNat)
  case atStart => exact ⟨0, by omega, rfl, World.ownsRow_nil _ _ _ _, hT0.out⟩
  case round =>
    rename World => wq
    obtain ⟨i, hi, rfl, hown, hTq⟩ := hrel
    have HTq := Lib.hid hTq
    have hqz := hTq.size
    have hBz := hTq.lt
    obtain ⟨c0, c1, c2⟩ := hTq.cells
    have hlen : xs.length ≤ 9223372036854775807 := by omega
    clear hTq
    by_cases hil : i < xs.length
    · obtain ⟨⟨o, s, f⟩, hxi⟩ : ∃ x, xs[i]? = some x := ⟨_, List.getElem?_eq_getElem hil⟩
      obtain ⟨b, off, rfl, hbb, d0, d1, d2⟩ := pub_at (hv.keep HTq.out.below) hxi
      have hms := Lib.hid (show lacksL S es H seen (xs.take (i + 1)) = lacksL S es H seen (xs.take i) ++ lackOf seen ⟨o, s, f⟩ (sitesL S es H ⟨o, s, f⟩) by rw [List.take_add_one, hxi]; exact lacksL_snoc _ _ _ _ _ _)
      have hle : (lacksL S es H seen (xs.take i)).length ≤ 9000 := by
        have h1 := lacksL_len S es H seen (xs.take i)
        have h2 : (xs.take i).length ≤ 1000 := by rw [List.length_take]; omega
        omega
      generalize lacksL S es H seen (xs.take i) = A at hms hle hown
      simp only at d0 d1 d2
      have hTp := Lib.hid (HTq.out.alloc (.cells #[.int .i64 o, .int .u64 s, .bool f] 65))
      have hP := Lib.hid (heap_alloc_new wq (.cells #[.int .i64 o, .int .u64 s, .bool f] 65))
      have Own := Lib.hid hown
      clear hxi hown
      go_wp2_with fail
      refine (rsites_any S H _ es ⟨o, s, f⟩ _ hTp.out.rd).mono ?_
      rintro e w1 ⟨u, rfl, hown, hb⟩
      obtain ⟨ua, uc, rfl⟩ := rd_slice (Rd.of_own hown)
      have hR := Rd.of_own hown
      have hTp1 := Lib.hid (hTp.out.next hb)
      have hP1 := Lib.hid ((hb.block _ (lt_of_block hP.out)).trans hP.out)
      have Own1 := Lib.hid (below_own (Own.out.alloc (.cells #[.int .i64 o, .int .u64 s, .bool f] 65)) hb (Nat.le_refl _))
      have hL9 := sites_len S es H ⟨o, s, f⟩
      generalize sitesL S es H ⟨o, s, f⟩ = L at hR hL9 hms hown
      have HownL := Lib.hid hown
      have hAz := hTp1.out.size
      clear hown hb c0 c1 c2 d0 d1 d2 hTp hP HTq Own
      go_wp2
      go_loopw [7, 11, 12, 13, 15, 26, 36] (fun uv _ _ _ _ ix _ wr => ∃ k : Nat, k ≤ L.length ∧ ix = .int .i64 (k : Int) ∧ wr.ownsRow w.heap.size 54 3 uv (A ++ lackOf seen ⟨o, s, f⟩ (L.take k)).length ((A ++ lackOf seen ⟨o, s, f⟩ (L.take k)).flatMap Sn.cs) ∧ wr.heap[wq.heap.size]? = some (.cells #[.int .i64 o, .int .u64 s, .bool f] 65 (0, 0)) ∧ TopIn w.heap.size S H ev es w wr ∧ KeepNot 54 w1 wr) (fun _ _ _ _ _ ix _ _ => L.length - (intOf ix).toNat)
      case atStart => exact ⟨0, by omega, rfl, by simpa [lackOf] using Own1.out, hP1.out, hTp1.out, KeepNot.refl _ _⟩
      case round =>
        rename World => wb
        obtain ⟨k, hk, rfl, hown, hPb, hTb, hD⟩ := hrel
        have hbz := hTb.size
        have hBb := hTb.lt
        by_cases hkl : k < L.length
        · obtain ⟨x, hxk⟩ : ∃ x, L[k]? = some x := ⟨_, List.getElem?_eq_getElem hkl⟩
          have hownL := own_keepNot hD HownL.out (by decide)
          obtain ⟨_, a', cap', ee, _, _, _, h4⟩ := Rd.of_own hownL
          obtain ⟨rfl, rfl⟩ : ua = a' ∧ uc = cap' := by simpa using ee
          obtain ⟨b2, off2, rfl, hbb2, hcell⟩ := h4 (by omega)
          have hd := hcell k (.int .i64 x) (by simp [ints, hxk])
          have hLk := Lib.hid (show lackOf seen ⟨o, s, f⟩ (L.take (k + 1)) = if isIn seen ⟨x, o, s⟩ = true then lackOf seen ⟨o, s, f⟩ (L.take k) else lackOf seen ⟨o, s, f⟩ (L.take k) ++ [⟨x, o, s⟩] by rw [List.take_add_one, hxk]; exact lackOf_snoc _ _ _ _)
          have hA2 : (A ++ lackOf seen ⟨o, s, f⟩ (L.take k)).length ≤ 9009 := by
            have h1 := lackOf_len seen ⟨o, s, f⟩ (L.take k)
            rw [List.length_take] at h1
            rw [List.length_append]
            omega
          generalize lackOf seen ⟨o, s, f⟩ (L.take k) = C at hLk hA2 hown
          obtain ⟨d0, d1, d2⟩ := cells3 hPb
          obtain ⟨c0, c1, c2⟩ := hTb.cells
          have hTb2 := Lib.hid hTb
          have hPb2 := Lib.hid hPb
          have hD2 := Lib.hid hD
          have Ownb := Lib.hid hown
          have hX0 := Lib.hid (heap_alloc_new wb (.cells #[.int .i64 x, .int .i64 o, .int .u64 s] 54))
          have hBx := Lib.hid ((Below.refl wb.heap.size wb).alloc (Nat.le_refl _) (.cells #[.int .i64 x, .int .i64 o, .int .u64 s] 54))
          have hsn2 : seen.length ≤ 9223372036854775807 := by omega
          clear hcell h4 ee hxk hTb hPb hD hown hownL
          go_wp2
          go_loopw [13, 15, 36] (fun bv _ ix wr => ∃ j : Nat, j ≤ seen.length ∧ ix = .int .i64 (j : Int) ∧ bv = .bool (isIn (seen.take j) ⟨x, o, s⟩) ∧ wr.heap[wb.heap.size]? = some (.cells #[.int .i64 x, .int .i64 o, .int .u64 s] 54 (0, 0)) ∧ Below wb.heap.size wb wr) (fun _ _ ix _ => seen.length - (intOf ix).toNat)
          case atStart => exact ⟨0, by omega, rfl, by simp [isIn], hX0.out, hBx.out⟩
          case round =>
            clear c0 c1 c2 d0 d1 d2 hd
            rename World => wj
            obtain ⟨j, hj, rfl, rfl, hXj, hBj⟩ := hrel
            have hjz := hBj.size
            obtain ⟨x0, x1, x2⟩ := cells3 hXj
            have hXz := lt_of_block hXj
            by_cases hjl : j < seen.length
            · obtain ⟨⟨yn, yo, ys⟩, hyj⟩ : ∃ y, seen[j]? = some y := ⟨_, List.getElem?_eq_getElem hjl⟩
              obtain ⟨b3, off3, rfl, hb3, y0, y1, y2⟩ := sn_at ((hs.keep hTb2.out.below).keep hBj) hyj
              simp only at y0 y1 y2
              have hin := Lib.hid (show isIn (seen.take (j + 1)) ⟨x, o, s⟩ = (isIn (seen.take j) ⟨x, o, s⟩ || eqSn ⟨x, o, s⟩ ⟨yn, yo, ys⟩) by rw [List.take_add_one, hyj]; exact isIn_snoc _ _ _)
              have HXj := Lib.hid hXj
              have HBj := Lib.hid hBj
              generalize isIn (seen.take j) ⟨x, o, s⟩ = z at hin
              clear hyj hXj hBj
              cases z with
              | true =>
                go_wp2
                go_roundw
                case rel => exact ⟨j + 1, by omega, by go_num, by rw [hin.out]; rfl, (Below.heap_alloc _ _ _ hXz).trans HXj.out, HBj.out.alloc hjz _⟩
                case measure => simp [intOf]; omega
              | false =>
                obtain ⟨t1, ht1⟩ : ∃ t, (x == yn) = t := ⟨_, rfl⟩
                obtain ⟨t2, ht2⟩ : ∃ t, (o == yo) = t := ⟨_, rfl⟩
                obtain ⟨t3, ht3⟩ : ∃ t, (s == ys) = t := ⟨_, rfl⟩
                have hin2 := Lib.hid (show isIn (seen.take (j + 1)) ⟨x, o, s⟩ = (t1 && (t2 && t3)) by rw [hin.out, Bool.false_or]; unfold eqSn; rw [ht1, ht2, ht3])
                cases t1 <;> cases t2 <;> cases t3
                all_goals
                  go_wp2
                  go_roundw
                  case rel => exact ⟨j + 1, by omega, by go_num, by rw [hin2.out]; rfl, (Below.heap_alloc _ _ _ hXz).trans HXj.out, HBj.out.alloc hjz _⟩
                  case measure => simp [intOf]; omega
            · obtain rfl : j = seen.length := by omega
              rw [List.take_length]
              have HXj := Lib.hid hXj
              have HBj := Lib.hid hBj
              generalize isIn seen ⟨x, o, s⟩ = z at hLk
              have Ownj := Lib.hid (below_own Ownb.out HBj.out (Nat.le_refl _))
              have hTj := Lib.hid (hTb2.out.next HBj.out)
              have hPj := Lib.hid ((HBj.out.block _ (lt_of_block hPb2.out)).trans hPb2.out)
              have hDj := Lib.hid (hD2.out.below HBj.out)
              clear hXj hBj
              cases z with
              | true =>
                go_wp2
                go_roundw
                case rel => exact ⟨k + 1, by omega, by go_num, by rw [hLk.out, if_pos rfl]; exact Ownj.out, hPj.out, hTj.out, hDj.out⟩
                case measure => simp [intOf]; omega
              | false =>
                have hTjz := hTj.out.size
                have Rk := Lib.hid (rd_blk (W := wj.alloc (.cells #[.int .i64 x, .int .i64 o, .int .u64 s] 54)) (k := wj.heap.size) (n := 1) (size := 3) (cs := #[.int .i64 x, .int .i64 o, .int .u64 s]) (t := 54) (heap_alloc_new _ _) rfl (by unfold maxLen; omega))
                go_wp2_with (first | (at_builtin; refine wpList_app _ rfl _ _ 48 rfl w.heap.size 54 (.agg #[.int .i64 0, .int .i64 0, .int .u64 0]) 3 24 Try.underlying48 info54 rfl (by decide) _ _ (A ++ C).length 1 _ [.int .i64 x, .int .i64 o, .int .u64 s] rfl rfl (Ownj.out.alloc _) Rk.out (by simp [Value.oneCell']) (by omega) (by unfold maxLen; omega) (by simp; omega) ?_; intro v5 w5 ho5 hgr5))
                go_roundw
                case rel =>
                  refine ⟨k + 1, by omega, by go_num, ?_, ?_, TopIn.next2 hr (hTj.out.alloc _) hgr5 (Ownj.out.alloc _) (by decide) (Nat.le_refl _), (hDj.out.alloc _).grown (Ownj.out.alloc _) hgr5⟩
                  · rw [hLk.out, if_neg (by decide), ← List.append_assoc]
                    simpa [Sn.cs, Nat.add_assoc] using ho5
                  · exact (hgr5.block _ (by have := lt_of_block hPj.out; simp; omega) (fun e => own_ne3 Ownj.out hPj.out (by decide) e.symm)).trans ((Below.heap_alloc _ _ _ (lt_of_block hPj.out)).trans hPj.out)
                case measure => simp [intOf]; omega
        · obtain rfl : k = L.length := by omega
          rw [List.take_length] at hown
          have Own2 := Lib.hid hown
          have HTb := Lib.hid hTb
          clear hown hTb hPb hD
          go_wp2
          go_roundw
          case rel => exact ⟨i + 1, by omega, by go_num, by rw [hms.out]; exact Own2.out, HTb.out⟩
          case measure => simp [intOf]; omega
    · obtain rfl : i = xs.length := by omega
      rw [List.take_length] at hown
      have Own := Lib.hid hown
      obtain ⟨ua, uc, rfl⟩ := rd_slice (Rd.of_own hown)
      clear hown
      go_wp2
      go_ret
      exact ⟨_, rfl, Own.out, HTq.out.below⟩
end Go.Proofs.Ytipdggjalhjpnab
