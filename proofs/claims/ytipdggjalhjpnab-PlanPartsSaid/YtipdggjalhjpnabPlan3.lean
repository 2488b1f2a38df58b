/-
  Plans: how many wait (the reference's Most).
-/
import Derived.Test.YtipdggjalhjpnabPlan2
namespace Go.Proofs.Ytipdggjalhjpnab
open Go.RowKit
set_option linter.unusedSimpArgs false
set_option linter.unusedVariables false

/-- How many wait of one, at the first k of its sites. -/
def mostK (S : Int) (es : List (Int × Int)) (H : Int) (p : Pub) (k : Nat) : Nat := if p.fed = true then (((sitesL S es H p).take k).map fun n => (onward S es H p.origin n).length).sum else 0
def mostP (S : Int) (es : List (Int × Int)) (H : Int) (p : Pub) : Nat := mostK S es H p (sitesL S es H p).length
def mostN (S : Int) (es : List (Int × Int)) (H : Int) (l : List Pub) : Nat := (l.map (mostP S es H)).sum
theorem onward_len (S : Int) (es : List (Int × Int)) (H o s : Int) : (onward S es H o s).length ≤ 9 := by
  unfold onward
  split
  · simp
  · have h1 : (flt o (nextL S es H s)).length ≤ (nextL S es H s).length := List.length_filter_le _ _
    have h2 : (nextL S es H s).length ≤ 9 := by
      unfold nextL
      split
      · exact outs_len _ _ _
      · simp
    omega
theorem sites_len (S : Int) (es : List (Int × Int)) (H : Int) (p : Pub) : (sitesL S es H p).length ≤ 9 := by
  unfold sitesL
  split
  · exact within_len _ _ _ _ _
  · split <;> simp
theorem sum_le {α : Type} (f : α → Nat) (c : Nat) (hf : ∀ x, f x ≤ c) : ∀ l : List α, (l.map f).sum ≤ l.length * c
  | [] => by simp
  | x :: l => by
    have := sum_le f c hf l
    have := hf x
    rw [List.map_cons, List.sum_cons, List.length_cons, Nat.add_mul]
    omega
theorem mostK_le (S : Int) (es : List (Int × Int)) (H : Int) (p : Pub) (k : Nat) : mostK S es H p k ≤ 81 := by
  unfold mostK
  split
  · have h1 := sum_le (fun n => (onward S es H p.origin n).length) 9 (fun n => onward_len _ _ _ _ _) ((sitesL S es H p).take k)
    have h2 := sites_len S es H p
    have h3 : ((sitesL S es H p).take k).length ≤ 9 := by rw [List.length_take]; omega
    omega
  · omega
theorem mostN_le (S : Int) (es : List (Int × Int)) (H : Int) (l : List Pub) : mostN S es H l ≤ l.length * 81 := sum_le _ _ (fun p => mostK_le _ _ _ _ _) l
theorem mostN_snoc (S : Int) (es : List (Int × Int)) (H : Int) (l : List Pub) (p : Pub) : mostN S es H (l ++ [p]) = mostN S es H l + mostP S es H p := by simp [mostN]
theorem mostK_zero (S : Int) (es : List (Int × Int)) (H : Int) (p : Pub) : mostK S es H p 0 = 0 := by unfold mostK; split <;> simp
theorem mostK_succ {S : Int} {es : List (Int × Int)} {H : Int} {p : Pub} {k : Nat} {n : Int} (h : (sitesL S es H p)[k]? = some n) : mostK S es H p (k + 1) = mostK S es H p k + if p.fed = true then (onward S es H p.origin n).length else 0 := by
  unfold mostK
  split
  · rw [List.take_add_one, h]
    simp
  · rfl

set_option maxRecDepth 8000 in
set_option maxHeartbeats 1600000 in
theorem rmost_any (S H : Int) (ev v : Value) (es : List (Int × Int)) (xs : List Pub) (w : World) (hx : xs.length ≤ 1000) (hr : Rd w 2 ev es.length (edgeCells es)) (hv : Rd w 3 v xs.length (xs.flatMap Pub.cs)) :
    Calls Try.prog 33 #[topV S ev H, v] w fun e w' => e = .returned (.int .i64 (mostN S es H xs : Int)) ∧ Below w.heap.size w w' := by
  obtain ⟨va, vc, rfl⟩ := rd_slice hv
  have hT0 := Lib.hid (TopIn.mk1 (S := S) (H := H) w hr)
  unfold topV
  go_enter Try.func33, Try.ntmps33
  go_wp2
  go_loopw [5, 7, 9, 12, 20] (fun nv _ _ ix _ wr => ∃ i : Nat, i ≤ xs.length ∧ ix = .int .i64 (i : Int) ∧ nv = .int .i64 ((mostN S es H (xs.take i) : Nat) : Int) ∧ TopIn w.heap.size S H ev es w wr) (fun _ _ _ ix _ _ => xs.length - (intOf ix).toNat)
  case atStart => exact ⟨0, by omega, rfl, rfl, hT0.out⟩
  case round =>
    rename World => wq
    obtain ⟨i, hi, rfl, rfl, hTq⟩ := hrel
    have HTq := Lib.hid hTq
    have hqz := hTq.size
    have hBz := hTq.lt
    obtain ⟨c0, c1, c2⟩ := hTq.cells
    have hlen : xs.length ≤ 9223372036854775807 := by omega
    clear hTq
    by_cases hil : i < xs.length
    · obtain ⟨⟨o, s, f⟩, hxi⟩ : ∃ x, xs[i]? = some x := ⟨_, List.getElem?_eq_getElem hil⟩
      obtain ⟨b, off, rfl, hbb, d0, d1, d2⟩ := pub_at (hv.keep HTq.out.below) hxi
      have hms := Lib.hid (show mostN S es H (xs.take (i + 1)) = mostN S es H (xs.take i) + mostP S es H ⟨o, s, f⟩ by rw [List.take_add_one, hxi]; exact mostN_snoc _ _ _ _ _)
      have hle : mostN S es H (xs.take i) ≤ 81000 := by
        have h1 := mostN_le S es H (xs.take i)
        have h2 : (xs.take i).length ≤ 1000 := by rw [List.length_take]; omega
        omega
      generalize mostN S es H (xs.take i) = m at hms hle ⊢
      simp only at d0 d1 d2
      have hTp := Lib.hid (HTq.out.alloc (.cells #[.int .i64 o, .int .u64 s, .bool f] 65))
      have hP := Lib.hid (heap_alloc_new wq (.cells #[.int .i64 o, .int .u64 s, .bool f] 65))
      clear hxi
      go_wp2_with fail
      refine (rsites_any S H _ es ⟨o, s, f⟩ _ hTp.out.rd).mono ?_
      rintro e w1 ⟨u, rfl, hown, hb⟩
      obtain ⟨ua, uc, rfl⟩ := rd_slice (Rd.of_own hown)
      have hR := Rd.of_own hown
      have hTp1 := Lib.hid (hTp.out.next hb)
      have hP1 := Lib.hid ((hb.block _ (lt_of_block hP.out)).trans hP.out)
      have hL9 := sites_len S es H ⟨o, s, f⟩
      have hmP := Lib.hid (show mostP S es H ⟨o, s, f⟩ = mostK S es H ⟨o, s, f⟩ (sitesL S es H ⟨o, s, f⟩).length from rfl)
      have hmK := Lib.hid (fun k n (h : (sitesL S es H ⟨o, s, f⟩)[k]? = some n) => mostK_succ h)
      have hmZ := Lib.hid (mostK_zero S es H ⟨o, s, f⟩)
      have hmL := Lib.hid (mostK_le S es H ⟨o, s, f⟩)
      generalize mostK S es H ⟨o, s, f⟩ = K at hmP hmK hmZ hmL
      generalize sitesL S es H ⟨o, s, f⟩ = L at hR hL9 hmP hmK hown
      clear hown hb c0 c1 c2 d0 d1 d2 hTp hP HTq
      go_wp2
      go_loopw [5, 9, 20] (fun nv _ ix wr => ∃ k : Nat, k ≤ L.length ∧ ix = .int .i64 (k : Int) ∧ nv = .int .i64 ((m + K k : Nat) : Int) ∧ wr.heap[wq.heap.size]? = some (.cells #[.int .i64 o, .int .u64 s, .bool f] 65 (0, 0)) ∧ TopIn w.heap.size S H ev es w wr ∧ Below w1.heap.size w1 wr) (fun _ _ ix _ => L.length - (intOf ix).toNat)
      case atStart => exact ⟨0, by omega, rfl, by rw [hmZ.out]; rfl, hP1.out, hTp1.out, Below.refl _ _⟩
      case round =>
        rename World => wb
        obtain ⟨k, hk, rfl, rfl, hPb, hTb, hD⟩ := hrel
        by_cases hkl : k < L.length
        · obtain ⟨x, hxk⟩ : ∃ x, L[k]? = some x := ⟨_, List.getElem?_eq_getElem hkl⟩
          obtain ⟨_, a', cap', ee, _, _, _, h4⟩ := hR
          obtain ⟨rfl, rfl⟩ : ua = a' ∧ uc = cap' := by simpa using ee
          obtain ⟨b2, off2, rfl, hbb2, hcell⟩ := h4 (by omega)
          have hd := (hD.cell (p := ⟨b2, off2 + k, none⟩) hbb2).trans (hcell k (.int .i64 x) (by simp [ints, hxk]))
          have hms2 := Lib.hid (hmK.out k x hxk)
          have hK1 := hmL.out k
          obtain ⟨d0, d1, d2⟩ := cells3 hPb
          obtain ⟨c0, c1, c2⟩ := hTb.cells
          have hTb2 := Lib.hid hTb
          have hPb2 := Lib.hid hPb
          have hD2 := Lib.hid hD
          have hcg : K (k + 1) = K k + if f = true then (onward S es H o x).length else 0 := hms2.out
          generalize K k = K0 at hcg hK1 ⊢
          have hcg2 := Lib.hid hcg
          clear hcell h4 ee hxk hTb hPb hD hcg hms2
          cases f with
          | true =>
            have hO9 := onward_len S es H o x
            go_wp2_with fail
            refine (ronward_any S H o x _ es _ hTb2.out.rd).mono ?_
            rintro e w2 ⟨u2, rfl, hown2, hb2⟩
            obtain ⟨oa, oc, rfl⟩ := rd_slice (Rd.of_own hown2)
            have hTc := Lib.hid (hTb2.out.next hb2)
            have hPc := Lib.hid ((hb2.block _ (lt_of_block hPb2.out)).trans hPb2.out)
            have hDc := Lib.hid (hD2.out.trans (hb2.mono hD2.out.size))
            generalize (onward S es H o x).length = c at hO9 hcg2 ⊢
            clear hown2 hb2 c0 c1 c2 d0 d1 d2
            go_wp2
            go_roundw
            case rel => exact ⟨k + 1, by omega, by go_num, by rw [hcg2.out]; exact congrArg (Value.int .i64) (by simp; omega), hPc.out, hTc.out, hDc.out⟩
            case measure => simp [intOf]; omega
          | false =>
            go_wp2
            go_roundw
            case rel => exact ⟨k + 1, by omega, by go_num, by rw [hcg2.out]; rfl, hPb2.out, hTb2.out, hD2.out⟩
            case measure => simp [intOf]; omega
        · obtain rfl : k = L.length := by omega
          have hTb2 := Lib.hid hTb
          clear hTb hPb hD
          go_wp2
          go_roundw
          case rel => exact ⟨i + 1, by omega, by go_num, by rw [hms.out, hmP.out], hTb2.out⟩
          case measure => simp [intOf]; omega
    · obtain rfl : i = xs.length := by omega
      rw [List.take_length]
      go_wp2
      go_ret
      exact ⟨rfl, HTq.out.below⟩
end Go.Proofs.Ytipdggjalhjpnab
