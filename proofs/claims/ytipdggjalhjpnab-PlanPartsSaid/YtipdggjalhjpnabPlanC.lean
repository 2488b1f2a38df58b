/-
  Plans: the first wrong event (the program's Check).
-/
import Derived.Test.YtipdggjalhjpnabSets2
namespace Go.Proofs.Ytipdggjalhjpnab
open Go.RowKit
set_option linter.unusedSimpArgs false
set_option linter.unusedVariables false

theorem isSet_le {w : World} {K : Value → Prop} {b n m : Nat} {l : List Value} (h : World.isSet w K b n l) (hn : n ≤ m) : World.isSet w K b m l := by
  obtain ⟨es, clock, hb, h1, h2⟩ := h
  exact ⟨es, clock, hb, Nat.le_trans h1 hn, h2⟩
theorem isSet_grown {w w' : World} {K : Value → Prop} {b n c : Nat} {l : List Value} (h : World.isSet w K b n l) (hg : w.grownBy w' (some c)) (hne : b ≠ c) : World.isSet w' K b n l :=
  isSet_kept h fun o ho => (hg.block b (Array.getElem?_eq_some_iff.1 ho).1 (fun e => hne (by simpa using e))).trans ho
theorem isSet_below {w w' : World} {K : Value → Prop} {b n : Nat} {l : List Value} (h : World.isSet w K b n l) (hb : Below w.heap.size w w') : World.isSet w' K b n l :=
  isSet_kept h fun o ho => (hb.block b (Array.getElem?_eq_some_iff.1 ho).1).trans ho
/-- The topology in its box, the set of ids known and the set of where they may be. -/
def KnowIn (B : Nat) (S H : Int) (ev : Value) (es : List (Int × Int)) (w0 : World) (n m : Nat) (K M : List Value) (W : World) : Prop :=
  TopIn B S H ev es w0 W ∧ World.isSet W KeyId (B + 1) n K ∧ World.isSet W KeySn (B + 1 + 1) m M ∧ B + 1 + 1 < W.heap.size
section
variable {B : Nat} {S H : Int} {ev : Value} {es : List (Int × Int)} {w0 : World} {n m : Nat} {K M : List Value} {W W' : World}
theorem KnowIn.next (h : KnowIn B S H ev es w0 n m K M W) (hb : Below W.heap.size W W') : KnowIn B S H ev es w0 n m K M W' :=
  ⟨h.1.next hb, isSet_below h.2.1 hb, isSet_below h.2.2.1 hb, Nat.lt_of_lt_of_le h.2.2.2 hb.size⟩
theorem KnowIn.alloc (h : KnowIn B S H ev es w0 n m K M W) (o : Obj) : KnowIn B S H ev es w0 n m K M (W.alloc o) := h.next ((Below.refl _ _).alloc (Nat.le_refl _) _)
theorem KnowIn.other (h : KnowIn B S H ev es w0 n m K M W) (hr : Rd w0 2 ev es.length (edgeCells es)) (hB : w0.heap.size ≤ B) {c : Nat} (hg : W.grownBy W' (some c)) (hc : B + 1 + 1 < c) : KnowIn B S H ev es w0 n m K M W' :=
  ⟨h.1.grown hr hB hg (fun k e => by simp at e; omega), isSet_grown h.2.1 hg (by omega), isSet_grown h.2.2.1 hg (by omega), Nat.lt_of_lt_of_le h.2.2.2 hg.size⟩
theorem KnowIn.known (h : KnowIn B S H ev es w0 n m K M W) (hr : Rd w0 2 ev es.length (edgeCells es)) (hB : w0.heap.size ≤ B) {n' : Nat} {K' : List Value} (hg : W.grownBy W' (some (B + 1))) (hs : World.isSet W' KeyId (B + 1) n' K') : KnowIn B S H ev es w0 n' m K' M W' :=
  ⟨h.1.grown hr hB hg (fun k e => by simp at e; omega), hs, isSet_grown h.2.2.1 hg (by omega), Nat.lt_of_lt_of_le h.2.2.2 hg.size⟩
theorem KnowIn.may (h : KnowIn B S H ev es w0 n m K M W) (hr : Rd w0 2 ev es.length (edgeCells es)) (hB : w0.heap.size ≤ B) {m' : Nat} {M' : List Value} (hg : W.grownBy W' (some (B + 1 + 1))) (hs : World.isSet W' KeySn (B + 1 + 1) m' M') : KnowIn B S H ev es w0 n m' K M' W' :=
  ⟨h.1.grown hr hB hg (fun k e => by simp at e; omega), isSet_grown h.2.1 hg (by omega), hs, Nat.lt_of_lt_of_le h.2.2.2 hg.size⟩
end

theorem snM_in {l : List Sn} {n o s : Int} : (⟨n, o, s⟩ : Sn) ∈ l ↔ (.agg #[.int .i64 n, .int .i64 o, .int .u64 s] : Value) ∈ l.map snV := by
  rw [← isIn_iff]; exact snV_in

set_option maxRecDepth 8000 in
set_option maxHeartbeats 3200000 in
theorem check_any (S H : Int) (ev v sv : Value) (es : List (Int × Int)) (xs : List Pub) (evs : List Ev) (w : World) (hx : xs.length ≤ 1000) (hev : evs.length ≤ 1000) (hr : Rd w 2 ev es.length (edgeCells es)) (hv : Rd w 3 v xs.length (xs.flatMap Pub.cs)) (hs : Rd w 4 sv evs.length (evs.flatMap Ev.cs)) :
    Calls Try.prog 36 #[topV S ev H, v, sv] w fun e w' => e = .returned (.tuple #[.int .i64 (checkL S es H xs evs).1, .int .i64 (checkL S es H xs evs).2]) ∧ Below w.heap.size w w' := by
  obtain ⟨va, vc, rfl⟩ := rd_slice hv
  obtain ⟨sa, sc, rfl⟩ := rd_slice hs
  have hmm : ∀ (t : TypeId) (w : World), (Instr.makeMap t none).run Try.prog w = .ok (.map (some w.heap.size)) (w.alloc (.map #[] 0)) := fun t w => run_makeMap _ w
  have hK0 := Lib.hid (show KnowIn w.heap.size S H ev es w 0 0 [] [] (((w.alloc (.cells #[.int .i64 S, ev, .int .i64 H] 24)).alloc (.map #[] 0)).alloc (.map #[] 0)) from
    ⟨((TopIn.mk1 (S := S) (H := H) w hr).alloc _).alloc _, isSet_below (by have := isSet_made (w.alloc (.cells #[.int .i64 S, ev, .int .i64 H] 24)) KeyId; rwa [World.size_alloc] at this) ((Below.refl _ _).alloc (Nat.le_refl _) _), by have := isSet_made ((w.alloc (.cells #[.int .i64 S, ev, .int .i64 H] 24)).alloc (.map #[] 0)) KeySn; rwa [World.size_alloc, World.size_alloc] at this, by simp⟩)
  unfold topV
  go_enter Try.func36, Try.ntmps36
  go_wp2
  go_loopw [11, 13, 21, 36] (fun _ _ ix _ wr => ∃ i : Nat, i ≤ xs.length ∧ ix = .int .i64 (i : Int) ∧ KnowIn w.heap.size S H ev es w i (i * 9) ((firstsL (xs.take i)).map idV) ((mayL S es H (xs.take i)).map snV) wr) (fun _ _ ix _ _ => xs.length - (intOf ix).toNat)
  case atStart => exact ⟨0, by omega, rfl, hK0.out⟩
  case round =>
    clear hK0
    rename World => wq
    obtain ⟨i, hi, rfl, hKq⟩ := hrel
    have HKq := Lib.hid hKq
    have hqz := hKq.1.size
    have hqB := hKq.2.2.2
    clear hKq
    by_cases hil : i < xs.length
    · obtain ⟨⟨o, s, f⟩, hxi⟩ : ∃ x, xs[i]? = some x := ⟨_, List.getElem?_eq_getElem hil⟩
      obtain ⟨b, off, rfl, hbb, d0, d1, d2⟩ := pub_at (hv.keep HKq.out.1.below) hxi
      have hxl : xs.length ≤ 9223372036854775807 := by omega
      have hf1 := Lib.hid (show firstsL (xs.take (i + 1)) = if (firstsL (xs.take i)).any (sameId o s) = true then firstsL (xs.take i) else firstsL (xs.take i) ++ [⟨o, s, f⟩] by rw [List.take_add_one, hxi]; exact firstsL_snoc _ _)
      have hm1 := Lib.hid (show mayL S es H (xs.take (i + 1)) = if (firstsL (xs.take i)).any (sameId o s) = true then mayL S es H (xs.take i) else mayL S es H (xs.take i) ++ (sitesL S es H ⟨o, s, f⟩).map fun n => ⟨n, o, s⟩ by rw [List.take_add_one, hxi]; exact mayL_snoc _ _ _ _ _)
      have HK1 := Lib.hid (HKq.out.alloc (.cells #[.int .i64 o, .int .u64 s, .bool f] 62))
      have hlk := isSet_lookup HK1.out.2.1 set51 Try.underlying91 (by kernel_rfl) (x := .agg #[.int .i64 o, .int .u64 s]) ⟨_, _, rfl⟩ (z := (firstsL (xs.take i)).any (sameId o s)) idV_in
      generalize (firstsL (xs.take i)).any (sameId o s) = z at hf1 hm1 hlk
      simp only at d0 d1 d2
      clear hxi
      cases z with
      | true =>
        go_wp2
        go_roundw
        case rel => exact ⟨i + 1, by omega, by go_num, by rw [hf1.out, hm1.out, if_pos rfl, if_pos rfl]; exact ⟨HK1.out.1, isSet_le HK1.out.2.1 (by omega), isSet_le HK1.out.2.2.1 (by omega), HK1.out.2.2.2⟩⟩
        case measure => simp [intOf]; omega
      | false =>
        obtain ⟨w2, hrun, hset2, hgr⟩ := isSet_update (e := 4) HK1.out.2.1 set51 Try.underlying91 (by unfold maxLen; omega) (x := .agg #[.int .i64 o, .int .u64 s]) ⟨_, _, rfl⟩
        have HK2 := Lib.hid (HK1.out.known hr (Nat.le_refl _) hgr hset2)
        have hP1 : (wq.alloc (.cells #[.int .i64 o, .int .u64 s, .bool f] 62)).heap[wq.heap.size]? = some (.cells #[.int .i64 o, .int .u64 s, .bool f] 62 (0, 0)) := heap_alloc_new _ _
        have hP2 := (hgr.block wq.heap.size (by simp) (by simp; omega)).trans hP1
        obtain ⟨e0, e1, e2⟩ := cells3 hP2
        obtain ⟨c0, c1, c2⟩ := HK2.out.1.cells
        have HP2 := Lib.hid hP2
        have hz2 := hgr.size
        rw [World.size_alloc] at hz2
        clear hset2 hgr hP1 hP2
        go_wp2_with fail
        refine (sites_any S H _ es ⟨o, s, f⟩ _ HK2.out.1.rd).mono ?_
        rintro e w3 ⟨u, rfl, hown, hb⟩
        obtain ⟨ua, uc, rfl⟩ := rd_slice (Rd.of_own hown)
        have hL9 := sites_len S es H ⟨o, s, f⟩
        have hM0 := may_len S es H (xs.take i)
        have hti : (xs.take i).length ≤ i := List.length_take_le _ _
        generalize sitesL S es H ⟨o, s, f⟩ = L at hown hL9 hm1 ⊢
        generalize mayL S es H (xs.take i) = M at hm1 HK2 hM0
        have HK3 := Lib.hid (HK2.out.next hb)
        have HP3 := Lib.hid ((hb.block _ (lt_of_block HP2.out)).trans HP2.out)
        have Own := Lib.hid hown
        have hz3 := hb.size
        clear hown hb HK2 HP2 HK1 e0 e1 e2 c0 c1 c2 hlk hrun
        go_wp2
        go_loopw [13, 36] (fun _ ix wr => ∃ k : Nat, k ≤ L.length ∧ ix = .int .i64 (k : Int) ∧ KnowIn w.heap.size S H ev es w (i + 1) (i * 9 + k) ((firstsL (xs.take i)).map idV ++ [.agg #[.int .i64 o, .int .u64 s]]) (M.map snV ++ ((L.take k).map fun n => snV ⟨n, o, s⟩)) wr ∧ wr.ownsRow w2.heap.size 3 1 (.slice ua L.length uc) L.length (ints L) ∧ wr.heap[wq.heap.size]? = some (.cells #[.int .i64 o, .int .u64 s, .bool f] 62 (0, 0))) (fun _ ix _ => L.length - (intOf ix).toNat)
        case atStart => exact ⟨0, by omega, rfl, by simpa using HK3.out, Own.out, HP3.out⟩
        case round =>
          rename World => wb
          obtain ⟨k, hk, rfl, hKb, hob, hPb⟩ := hrel
          have HKb := Lib.hid hKb
          have Ob := Lib.hid hob
          have HPb := Lib.hid hPb
          clear hKb hob hPb
          by_cases hkl : k < L.length
          · obtain ⟨n, hn⟩ : ∃ x, L[k]? = some x := ⟨_, List.getElem?_eq_getElem hkl⟩
            obtain ⟨_, a', cap', ee, _, _, _, h4⟩ := Rd.of_own Ob.out
            obtain ⟨rfl, rfl⟩ : ua = a' ∧ uc = cap' := by simpa using ee
            obtain ⟨b2, off2, rfl, hbb2, hcell⟩ := h4 (by omega)
            have hd := hcell k (.int .i64 n) (by simp [ints, hn])
            obtain ⟨w5, hrun, hset5, hgr⟩ := isSet_update (e := 4) HKb.out.2.2.1 set53 Try.underlying87 (by unfold maxLen; omega) (x := .agg #[.int .i64 n, .int .i64 o, .int .u64 s]) ⟨_, _, _, rfl⟩
            have HK5 := Lib.hid (HKb.out.may hr (Nat.le_refl _) hgr hset5)
            have HO5 := Lib.hid (Ob.out.kept hgr (.inr (fun e => by have := (Ob.out.lt _ e).1; omega)))
            have HP5 := Lib.hid ((hgr.block wq.heap.size (lt_of_block HPb.out) (by simp; omega)).trans HPb.out)
            have hms := Lib.hid (show (L.take (k + 1)).map (fun n => snV ⟨n, o, s⟩) = (L.take k).map (fun n => snV ⟨n, o, s⟩) ++ [.agg #[.int .i64 n, .int .i64 o, .int .u64 s]] by rw [List.take_add_one, hn]; simp [snV])
            obtain ⟨e0, e1, e2⟩ := cells3 HPb.out
            clear hcell h4 ee hn hset5 hgr
            go_wp2
            go_roundw
            case rel => exact ⟨k + 1, by omega, by go_num, by rw [hms.out, ← List.append_assoc]; exact HK5.out, HO5.out, HP5.out⟩
            case measure => simp [intOf]; omega
          · obtain rfl : k = L.length := by omega
            rw [List.take_length] at HKb
            go_wp2
            go_roundw
            case rel =>
              refine ⟨i + 1, by omega, by go_num, ?_⟩
              rw [hf1.out, hm1.out, if_neg (by decide), if_neg (by decide), List.map_append, List.map_append, List.map_map]
              exact ⟨HKb.out.1, HKb.out.2.1, isSet_le HKb.out.2.2.1 (by omega), HKb.out.2.2.2⟩
            case measure => simp [intOf]; omega
    · obtain rfl : i = xs.length := by omega
      rw [List.take_length] at HKq
      have hS0 := Lib.hid (by have := isSet_made wq KeyEv; exact this)
      have HK1 := Lib.hid (HKq.out.alloc (.map #[] 0))
      have hxl9 : xs.length * 9 ≤ 9000 := by omega
      clear HKq
      go_wp2
      go_loopw [15, 16, 50, 55, 62, 72] (fun _ _ ix _ _ _ wr => ∃ i : Nat, i ≤ evs.length ∧ ix = .int .i64 (i : Int) ∧ rightTo S es H xs evs i ∧ KnowIn w.heap.size S H ev es w xs.length (xs.length * 9) ((firstsL xs).map idV) ((mayL S es H xs).map snV) wr ∧ World.isSet wr KeyEv wq.heap.size i ((evs.take i).map evV) ∧ wq.heap.size < wr.heap.size) (fun _ _ ix _ _ _ _ => evs.length - (intOf ix).toNat)
      case atStart => exact ⟨0, by omega, rfl, rightTo_zero, HK1.out, hS0.out, by simp⟩
      case round =>
        clear HK1 hS0
        rename World => wb
        obtain ⟨i, hi, rfl, hri, hKb, hSb, hbz⟩ := hrel
        have HKb := Lib.hid hKb
        have HSb := Lib.hid hSb
        have Hri := Lib.hid hri
        clear hKb hSb hri
        have hel : evs.length ≤ 9223372036854775807 := by omega
        by_cases hil : i < evs.length
        · obtain ⟨⟨n, q, o, s⟩, hxi⟩ : ∃ x, evs[i]? = some x := ⟨_, List.getElem?_eq_getElem hil⟩
          obtain ⟨b, off, rfl, hbb, d0, d1, d2, d3⟩ := ev_at (hs.keep HKb.out.1.below) hxi
          simp only at d0 d1 d2 d3
          have HK1 := Lib.hid (HKb.out.alloc (.cells #[.int .i64 n, .string q, .int .i64 o, .int .u64 s] 70))
          have HS1 := Lib.hid (isSet_below HSb.out ((Below.refl wb.heap.size wb).alloc (Nat.le_refl _) (.cells #[.int .i64 n, .string q, .int .i64 o, .int .u64 s] 70)))
          have hw := Lib.hid (wrAt_of (S := S) (es := es) (H := H) (l := xs) hxi)
          have hsn := Lib.hid (show (evs.take (i + 1)).map evV = (evs.take i).map evV ++ [.agg #[.int .i64 n, .string q, .int .i64 o, .int .u64 s]] by rw [List.take_add_one, hxi]; simp [evV, Ev.cs])
          have hlk := isSet_lookup HK1.out.2.1 set51 Try.underlying91 (by kernel_rfl) (x := .agg #[.int .i64 o, .int .u64 s]) ⟨_, _, rfl⟩ (z := (firstsL xs).any (sameId o s)) idV_in
          rw [known_iff] at hlk
          clear hxi
          cases hp : firstP xs o s with
          | none =>
            have hw3 : wrAt S es H xs evs i = 3 := by rw [hw.out]; unfold wrongL; rw [hp]
            have hC := Lib.hid (checkL_at Hri.out hil (by rw [hw3]; omega))
            rw [hw3] at hC
            rw [hp] at hlk
            simp only [Option.isSome_none] at hlk
            clear hw3 hp
            go_wp2
            go_ret2
            rw [hC.out]
            exact ⟨rfl, HK1.out.1.below⟩
          | some p =>
            rw [hp] at hlk
            simp only [Option.isSome_some] at hlk
            have hl2 := isSet_lookup HK1.out.2.2.1 set53 Try.underlying87 (by kernel_rfl) (x := .agg #[.int .i64 n, .int .i64 o, .int .u64 s]) ⟨_, _, _, rfl⟩ (z := isAt (sitesL S es H p) n) ((may_iff hp n).symm.trans snM_in)
            have hl3 := isSet_lookup HS1.out set70 Try.underlying92 (by kernel_rfl) (x := .agg #[.int .i64 n, .string q, .int .i64 o, .int .u64 s]) ⟨⟨n, q, o, s⟩, rfl⟩ (z := isEv (evs.take i) ⟨n, q, o, s⟩) evV_in
            have hw2 := hw.out
            unfold wrongL at hw2
            simp only [hp] at hw2
            have Hw2 := Lib.hid hw2
            generalize isAt (sitesL S es H p) n = z2 at hl2 Hw2
            generalize isEv (evs.take i) ⟨n, q, o, s⟩ = z3 at hl3 Hw2
            clear hw2 hw hp
            cases z2 with
            | false =>
              have hw3 : wrAt S es H xs evs i = 2 := by rw [Hw2.out]; rfl
              have hC := Lib.hid (checkL_at Hri.out hil (by rw [hw3]; omega))
              rw [hw3] at hC
              clear hw3 hl3
              go_wp2
              go_ret2
              rw [hC.out]
              exact ⟨rfl, HK1.out.1.below⟩
            | true =>
              cases z3 with
              | true =>
                have hw3 : wrAt S es H xs evs i = 4 := by rw [Hw2.out]; rfl
                have hC := Lib.hid (checkL_at Hri.out hil (by rw [hw3]; omega))
                rw [hw3] at hC
                clear hw3
                go_wp2
                go_ret2
                rw [hC.out]
                exact ⟨rfl, HK1.out.1.below⟩
              | false =>
                have hw3 := Lib.hid (show wrAt S es H xs evs i = 0 by rw [Hw2.out]; rfl)
                obtain ⟨w5, hrun, hset5, hgr⟩ := isSet_update (e := 4) HS1.out set70 Try.underlying92 (by unfold maxLen; omega) (x := .agg #[.int .i64 n, .string q, .int .i64 o, .int .u64 s]) ⟨⟨n, q, o, s⟩, rfl⟩
                have HK5 := Lib.hid (HK1.out.other hr (Nat.le_refl _) hgr hqB)
                have HS5 := Lib.hid hset5
                have hz5 := hgr.size
                rw [World.size_alloc] at hz5
                clear hset5 hgr
                go_wp2
                go_roundw
                case rel => exact ⟨i + 1, by omega, by go_num, rightTo_succ Hri.out hw3.out, HK5.out, by rw [hsn.out]; exact HS5.out, by omega⟩
                case measure => simp [intOf]; omega
        · obtain rfl : i = evs.length := by omega
          have hC := Lib.hid (checkL_all Hri.out)
          go_wp2
          go_ret2
          rw [hC.out]
          exact ⟨rfl, HKb.out.1.below⟩
end Go.Proofs.Ytipdggjalhjpnab
