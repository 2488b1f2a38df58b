/-
  Topologies: plain laws for TopoFlows (who goes onward comes to just those that are within).
-/
import Derived.Test.YtipdggjalhjpnabTri
namespace Go.Proofs.Ytipdggjalhjpnab
open Go.RowKit
set_option linter.unusedSimpArgs false
set_option linter.unusedVariables false

def onN (es : List (Int × Int)) (a p : Nat) : List Nat := (List.range 9).filter fun k => hasE es p k && !(k == a)
def hitO (es : List (Int × Int)) (L : List Nat) (i : Nat) (O : List Nat) (k b : Nat) : Bool := hitL es L i b || decide (b ∈ O.take k)
theorem hitO_zero (es : List (Int × Int)) (L : List Nat) (i : Nat) (O : List Nat) : hitO es L i O 0 = hitL es L i := by funext b; simp [hitO]
theorem hitO_ne (es : List (Int × Int)) (L : List Nat) (i : Nat) {O : List Nat} {k q : Nat} (hq : O[k]? = some q) (b : Nat) (hb : b ≠ q) : hitO es L i O (k + 1) b = hitO es L i O k b := by
  unfold hitO
  rw [List.take_add_one, hq]
  simp [hb]
theorem hitO_self (es : List (Int × Int)) (L : List Nat) (i : Nat) {O : List Nat} {k q : Nat} (hq : O[k]? = some q) : hitO es L i O (k + 1) q = true := by
  unfold hitO
  rw [List.take_add_one, hq]
  simp
theorem hit_congr {F : Nat → Int} {d : Int} {h h' : Nat → Bool} (hh : ∀ b, F b = -1 → h' b = h b) : hitF F d h' = hitF F d h ∧ ∀ N, Nset F h N → Nset F h' N := by
  have key : ∀ b, (F b = -1 ∧ h' b = true) ↔ (F b = -1 ∧ h b = true) := fun b =>
    ⟨fun e => ⟨e.1, by rw [← hh b e.1]; exact e.2⟩, fun e => ⟨e.1, by rw [hh b e.1]; exact e.2⟩⟩
  refine ⟨funext fun b => ?_, fun N hN => ⟨hN.1, fun b => ?_⟩⟩
  · unfold hitF
    by_cases hb : F b = -1 ∧ h b = true
    · rw [if_pos hb, if_pos ((key b).2 hb)]
    · rw [if_neg hb, if_neg (fun h => hb ((key b).1 h))]
  · rw [hN.2 b, key b]
theorem fst_self (es : List (Int × Int)) (a d : Nat) : fst es a (d + 1) a = 0 := by
  have h := fst_some (es := es) (a := a) (k := 0) (m := d + 1) (b := a) (by simp [rch]) (by omega)
  omega
theorem onN_mem {es : List (Int × Int)} {a p b : Nat} : b ∈ onN es a p ↔ b < 9 ∧ hasE es p b = true ∧ b ≠ a := by simp [onN]
theorem onN_nodup (es : List (Int × Int)) (a p : Nat) : (onN es a p).Nodup := List.Pairwise.filter _ List.nodup_range
theorem onN_len (es : List (Int × Int)) (a p : Nat) : (onN es a p).length ≤ 9 := by
  have := List.length_filter_le (fun k => hasE es p k && !(k == a)) (List.range 9)
  simpa [onN] using this
theorem hitO_all {S : Int} {es : List (Int × Int)} (h : okE S es) (hS : S ≤ 8) {L : List Nat} {i p a d : Nat} (hp : L[i]? = some p) (b : Nat) (hb : fst es a (d + 1) b = -1) : hitO es L i (onN es a p) (onN es a p).length b = hitL es L (i + 1) b := by
  have hba : b ≠ a := fun e => by subst e; rw [fst_self] at hb; omega
  unfold hitO hitL
  rw [List.take_length, List.take_add_one, hp, List.any_append]
  simp only [Option.toList, List.any_cons, List.any_nil, Bool.or_false]
  congr 1
  rw [Bool.eq_iff_iff]
  simp only [decide_eq_true_eq]
  rw [onN_mem]
  constructor
  · exact fun h => h.2.1
  · intro he
    have := (h.1 _ (of_decide_eq_true he)).2.2.2.1
    simp only at this
    exact ⟨by omega, he, hba⟩
theorem Lset_far {S H : Int} {es : List (Int × Int)} (hT : okT S es H) {a : Nat} (ha : 1 ≤ a) (ha2 : (a : Int) ≤ S) {d : Nat} {L : List Nat} (hL : Lset es a d L) {p : Nat} (hp : p ∈ L) : farI S es H (a : Int) (p : Int) = d := by
  have h1 := (hL p).1 hp
  have h2 := rch_in hT.2.2.2.2 ha ha2 h1.1
  rw [far_in hT (by simp [btw]; omega) (by simp [btw]; omega)]
  simp only [Int.toNat_natCast]
  have h3 := lev_le hT.2.2.2.2 hT.2.1 ha ha2 h1.1
  have h4 := (fst_rch h3.1).1
  by_cases hlt : levI S es a p < d
  · exfalso
    have e : levI S es a p = fst es a S.toNat p := rfl
    have h5 := fst_some (m := d) h4 (by omega)
    omega
  · omega
theorem onward_nats {S H : Int} {es : List (Int × Int)} (hT : okT S es H) {a : Nat} (ha : 1 ≤ a) (ha2 : (a : Int) ≤ S) {d : Nat} {L : List Nat} (hL : Lset es a d L) {p : Nat} (hp : p ∈ L) (hd : (d : Int) < H) : onward S es H (a : Int) (p : Int) = nats (onN es a p) := by
  unfold onward
  rw [Lset_far hT ha ha2 hL hp, if_neg (by omega)]
  unfold nextL
  rw [if_pos hT]
  unfold outs onN nats flt hasE
  rw [List.filter_map, List.filter_filter]
  congr 1
  apply List.filter_congr
  intro k _
  simp only [Function.comp]
  rw [Bool.and_comm]
  congr 2
  rw [Bool.eq_iff_iff]
  simp
  omega
theorem onward_top {S H : Int} {es : List (Int × Int)} (hT : okT S es H) {a : Nat} (ha : 1 ≤ a) (ha2 : (a : Int) ≤ S) {d : Nat} {L : List Nat} (hL : Lset es a d L) {p : Nat} (hp : p ∈ L) (hd : (d : Int) = H) : onward S es H (a : Int) (p : Int) = [] := by
  unfold onward
  rw [Lset_far hT ha ha2 hL hp, if_pos (.inr (by omega))]
/-- How far it is, to those that are within. -/
def gH (S : Int) (es : List (Int × Int)) (H : Int) (a b : Nat) : Int := if levI S es a b ≠ -1 ∧ levI S es a b ≤ H then levI S es a b else -1
theorem fst_stay {es : List (Int × Int)} {a m b : Nat} (h : fst es a m b ≠ -1) : ∀ n, fst es a (m + n) b = fst es a m b
  | 0 => rfl
  | n + 1 => by rw [← Nat.add_assoc, fst_succ, fst_stay h n, if_neg h]
theorem fin_closed {S H : Int} {es : List (Int × Int)} (hT : okT S es H) {a : Nat} (ha : 1 ≤ a) (ha2 : (a : Int) ≤ S) {d : Nat} (hN : Lset es a (d + 1) []) (hd : (d : Int) + 1 ≤ H) (b : Nat) : fst es a (d + 2) b = gH S es H a b := by
  have hE := hT.2.2.2.2
  have hc := none_closed hE hT.2.1 ha ha2 hN
  have h1 := fst_closed hc b 1
  have h2 := fst_closed hc b (max S.toNat (d + 2) - (d + 1))
  rw [show d + 1 + (max S.toNat (d + 2) - (d + 1)) = max S.toNat (d + 2) by omega, fst_big hE hT.2.1 ha ha2 b _ (by omega)] at h2
  have h3 := fst_bd es a (d + 1) b
  rw [show d + 2 = d + 1 + 1 by omega, h1]
  unfold gH
  rw [h2]
  split
  · rfl
  · omega
theorem fin_top {S H : Int} {es : List (Int × Int)} (hT : okT S es H) {a : Nat} (ha : 1 ≤ a) (ha2 : (a : Int) ≤ S) {d : Nat} (hd : (d : Int) = H) (b : Nat) : fst es a (d + 1) b = gH S es H a b := by
  have hE := hT.2.2.2.2
  have hbig := fst_big hE hT.2.1 ha ha2 b (max S.toNat (d + 1)) (by omega)
  have hbd := fst_bd es a (d + 1) b
  by_cases hf : fst es a (d + 1) b = -1
  · have hr := fst_none.1 hf
    rw [hf]
    unfold gH
    rw [if_neg]
    rintro ⟨h1, h2⟩
    have hp : 0 ≤ levI S es a b := by
      have := fst_bd es a S.toNat b
      have e : levI S es a b = fst es a S.toNat b := rfl
      omega
    have h3 := (fst_rch hp).1
    have e : levI S es a b = fst es a S.toNat b := rfl
    have h4 := rch_le h3 (show (fst es a S.toNat b).toNat ≤ d by omega)
    rw [hr] at h4
    cases h4
  · have h1 := fst_stay hf (max S.toNat (d + 1) - (d + 1))
    rw [show d + 1 + (max S.toNat (d + 1) - (d + 1)) = max S.toNat (d + 1) by omega, hbig] at h1
    unfold gH
    rw [h1, if_pos ⟨hf, by omega⟩]
def atA (G : Nat → Int) : Array Value := farA fun b => G b + 1
theorem atA_get (G : Nat → Int) {k : Nat} (hk : k < 9) : (atA G)[k]? = some (.int .i64 (G k + 1)) := farA_get _ hk
theorem atA_new {F : Nat → Int} {d : Int} {h h' : Nat → Bool} {k : Nat} (hk : k < 9) (hF : F k = -1) (h1 : h' k = true) (h2 : ∀ b, b ≠ k → h' b = h b) :
    (atA (hitF F d h)).setIfInBounds k (.int .i64 (d + 1)) = atA (hitF F d h') := by
  refine farA_set _ _ hk (d + 1) ?_ ?_
  · show hitF F d h' k + 1 = d + 1
    unfold hitF; rw [if_pos ⟨hF, h1⟩]
  · intro b hb
    show hitF F d h' b + 1 = hitF F d h b + 1
    unfold hitF; rw [h2 b hb]
theorem atA_start (es : List (Int × Int)) {a : Nat} (ha : a < 9) : (farA fun _ => (0 : Int)).setIfInBounds a (.int .i64 1) = atA (fst es a (0 + 1)) := by
  refine farA_set _ _ ha 1 ?_ ?_
  · simp [fst, rch, List.range, List.range.loop]
  · intro b hb
    simp [fst, rch, List.range, List.range.loop, hb]
def gridU (u : Nat → Nat → Bool) : Array Value := ((List.range 81).map fun k => Value.bool (u (k / 9) (k % 9))).toArray
theorem gridU_get (u : Nat → Nat → Bool) {p q : Nat} (hp : p < 9) (hq : q < 9) : (gridU u)[p * 9 + q]? = some (.bool (u p q)) := by
  have h1 : (p * 9 + q) / 9 = p := by omega
  have h2 : (p * 9 + q) % 9 = q := by omega
  have h3 : p * 9 + q < 81 := by omega
  simp [gridU, h1, h2, h3]
def setU (u : Nat → Nat → Bool) (p q : Nat) : Nat → Nat → Bool := fun x y => if x = p ∧ y = q then true else u x y
theorem gridU_set (u : Nat → Nat → Bool) {p q : Nat} (hp : p < 9) (hq : q < 9) : (gridU u).setIfInBounds (p * 9 + q) (.bool true) = gridU (setU u p q) := by
  apply Array.ext_getElem?
  intro j
  rw [Array.getElem?_setIfInBounds]
  by_cases hj : p * 9 + q = j
  · subst hj
    have h1 : (p * 9 + q) / 9 = p := by omega
    have h2 : (p * 9 + q) % 9 = q := by omega
    have h3 : p * 9 + q < 81 := by omega
    simp [gridU, h1, h2, setU, h3]
  · rw [if_neg hj]
    by_cases h9 : j < 81
    · have hne : ¬ (j / 9 = p ∧ j % 9 = q) := by omega
      simp [gridU, h9, setU, hne]
    · simp [gridU, h9]
/-- Where the search stands: still under way, or done. -/
def FlowA (S : Int) (es : List (Int × Int)) (H : Int) (a d : Nat) (L : List Nat) (G : Nat → Int) (u : Nat → Nat → Bool) : Prop :=
  0 < L.length ∧ (d : Int) ≤ H ∧ Lset es a d L ∧ L.Nodup ∧ L.length ≤ 9 ∧ d + 1 ≤ cnt es a d ∧ G = fst es a (d + 1) ∧ ∀ p q, u p q = true → fst es a d p ≠ -1
def FlowHead (S : Int) (es : List (Int × Int)) (H : Int) (a d : Nat) (L : List Nat) (G : Nat → Int) (u : Nat → Nat → Bool) : Prop :=
  FlowA S es H a d L G u ∨ (L = [] ∧ G = gH S es H a)
theorem flow_start {S H : Int} {es : List (Int × Int)} (hT : okT S es H) {a : Nat} (ha9 : a < 9) : FlowHead S es H a 0 [a] (fst es a (0 + 1)) (fun _ _ => false) :=
  .inl ⟨by simp, hT.2.2.1, Lset.nil es a, by simp, by simp, cnt_zero es ha9, rfl, fun p q h => by cases h⟩
theorem flow_next {S H : Int} {es : List (Int × Int)} (hT : okT S es H) {a : Nat} (ha : 1 ≤ a) (ha2 : (a : Int) ≤ S) {d : Nat} {L : List Nat} {G : Nat → Int} {u0 u : Nat → Nat → Bool} (hA : FlowA S es H a d L G u0) (hd : (d : Int) < H) {N : List Nat}
    (hN : Nset (fst es a (d + 1)) (hitL es L L.length) N) (hu : ∀ p q, u p q = true → fst es a d p ≠ -1 ∨ p ∈ L) : FlowHead S es H a (d + 1) N (hitF (fst es a (d + 1)) ((d : Int) + 1) (hitL es L L.length)) u := by
  obtain ⟨hL0, hdH, hL, hnd, hL9, hc, hG, hu0⟩ := hA
  have hE := hT.2.2.2.2
  have hLany : hitL es L L.length = fun b => L.any fun j => hasE es j b := by funext b; unfold hitL; rw [List.take_length]
  rw [hLany] at hN ⊢
  have hfn : hitF (fst es a (d + 1)) ((d : Int) + 1) (fun b => L.any fun j => hasE es j b) = fst es a (d + 2) := funext fun b => hit_next hE hT.2.1 ha ha2 hL b
  rw [hfn]
  have hL2 := next_Lset hE hT.2.1 ha ha2 hL hN
  by_cases hN0 : N = []
  · subst hN0
    exact .inr ⟨rfl, funext fun b => fin_closed hT ha ha2 hL2 (by omega) b⟩
  · have hpos : 0 < N.length := by cases N with
      | nil => exact absurd rfl hN0
      | cons _ _ => simp
    have hg := some_grows hE hT.2.1 ha ha2 hL2 (List.getElem_mem hpos)
    refine .inl ⟨hpos, by omega, hL2, hN.1, hN.len, by omega, rfl, fun p q hpq => ?_⟩
    rcases hu p q hpq with h1 | h1
    · rw [fst_succ, if_neg h1]; exact h1
    · have h2 := (hL p).1 h1
      rw [fst_succ, if_pos h2.2, h2.1]
      simp
theorem flow_stop {S H : Int} {es : List (Int × Int)} (hT : okT S es H) {a : Nat} (ha : 1 ≤ a) (ha2 : (a : Int) ≤ S) {d : Nat} {L : List Nat} {G : Nat → Int} {u0 u : Nat → Nat → Bool} (hA : FlowA S es H a d L G u0) (hd : (d : Int) = H) : FlowHead S es H a (d + 1) [] G u :=
  .inr ⟨rfl, by rw [hA.2.2.2.2.2.2.1]; exact funext fun b => fin_top hT ha ha2 hd b⟩
def hitH (es : List (Int × Int)) (H : Int) (d : Nat) (L : List Nat) (i b : Nat) : Bool := decide ((d : Int) < H) && hitL es L i b
def onH (es : List (Int × Int)) (H : Int) (d a p : Nat) : List Nat := if (d : Int) < H then onN es a p else []
def hitP (h : Nat → Bool) (O : List Nat) (k b : Nat) : Bool := h b || decide (b ∈ O.take k)
theorem hitH_zero (es : List (Int × Int)) (H : Int) (d : Nat) (L : List Nat) : hitH es H d L 0 = fun _ => false := by funext b; simp [hitH, hitL_zero]
theorem hitP_zero (h : Nat → Bool) (O : List Nat) : hitP h O 0 = h := by funext b; simp [hitP]
theorem hitP_ne (h : Nat → Bool) {O : List Nat} {k q : Nat} (hq : O[k]? = some q) (b : Nat) (hb : b ≠ q) : hitP h O (k + 1) b = hitP h O k b := by
  unfold hitP
  rw [List.take_add_one, hq]
  simp [hb]
theorem hitP_self (h : Nat → Bool) {O : List Nat} {k q : Nat} (hq : O[k]? = some q) : hitP h O (k + 1) q = true := by
  unfold hitP
  rw [List.take_add_one, hq]
  simp
theorem onward_H {S H : Int} {es : List (Int × Int)} (hT : okT S es H) {a : Nat} (ha : 1 ≤ a) (ha2 : (a : Int) ≤ S) {d : Nat} {L : List Nat} (hL : Lset es a d L) {p : Nat} (hp : p ∈ L) (hd : (d : Int) ≤ H) : onward S es H (a : Int) (p : Int) = nats (onH es H d a p) := by
  unfold onH
  by_cases h : (d : Int) < H
  · rw [if_pos h]; exact onward_nats hT ha ha2 hL hp h
  · rw [if_neg h]; exact onward_top hT ha ha2 hL hp (by omega)
theorem onH_mem {es : List (Int × Int)} {H : Int} {d a p b : Nat} (h : b ∈ onH es H d a p) : b < 9 ∧ hasE es p b = true ∧ b ≠ a := by
  unfold onH at h
  split at h
  · exact onN_mem.1 h
  · simp at h
theorem onH_nodup (es : List (Int × Int)) (H : Int) (d a p : Nat) : (onH es H d a p).Nodup := by
  unfold onH; split
  · exact onN_nodup _ _ _
  · simp
theorem onH_len (es : List (Int × Int)) (H : Int) (d a p : Nat) : (onH es H d a p).length ≤ 9 := by
  unfold onH; split
  · exact onN_len _ _ _
  · simp
theorem hitH_all {S H : Int} {es : List (Int × Int)} (h : okE S es) (hS : S ≤ 8) {L : List Nat} {i p a d : Nat} (hp : L[i]? = some p) (b : Nat) (hb : fst es a (d + 1) b = -1) : hitH es H d L (i + 1) b = hitP (hitH es H d L i) (onH es H d a p) (onH es H d a p).length b := by
  have h1 := hitO_all h hS hp b hb
  unfold hitO at h1
  unfold hitP hitH onH
  by_cases hd : (d : Int) < H
  · rw [if_pos hd]
    simp only [decide_eq_true hd, Bool.true_and]
    exact h1.symm
  · rw [if_neg hd]
    simp [hd]
theorem flow_go {S H : Int} {es : List (Int × Int)} (hT : okT S es H) {a : Nat} (ha : 1 ≤ a) (ha2 : (a : Int) ≤ S) {d : Nat} {L : List Nat} {G : Nat → Int} {u0 u : Nat → Nat → Bool} (hA : FlowA S es H a d L G u0) {N : List Nat}
    (hN : Nset (fst es a (d + 1)) (hitH es H d L L.length) N) (hu : ∀ p q, u p q = true → fst es a d p ≠ -1 ∨ p ∈ L.take L.length) : FlowHead S es H a (d + 1) N (hitF (fst es a (d + 1)) ((d : Int) + 1) (hitH es H d L L.length)) u := by
  rw [List.take_length] at hu
  by_cases hd : (d : Int) < H
  · have e : hitH es H d L L.length = hitL es L L.length := by funext b; simp [hitH, hd]
    rw [e] at hN ⊢
    exact flow_next hT ha ha2 hA hd hN hu
  · have e : hitH es H d L L.length = fun _ => false := by funext b; simp [hitH, hd]
    rw [e] at hN ⊢
    have hN0 : N = [] := by
      cases N with
      | nil => rfl
      | cons x N => have := ((hN.2 x).1 (by simp)).2.2; simp at this
    subst hN0
    have hF : hitF (fst es a (d + 1)) ((d : Int) + 1) (fun _ => false) = G := by
      rw [hA.2.2.2.2.2.2.1]
      funext b
      unfold hitF
      rw [if_neg (fun h => by have := h.2; simp at this)]
    rw [hF]
    exact flow_stop hT ha ha2 hA (by have := hA.2.1; omega)
theorem gH_in {S H : Int} {es : List (Int × Int)} (hT : okT S es H) {a : Nat} (ha : 1 ≤ a) (ha2 : (a : Int) ≤ S) {n : Nat} (hn : 1 ≤ n) (hnS : (n : Int) ≤ S) :
    (((n : Int) ∈ within S es H (a : Int) 9) ↔ 0 < gH S es H a n + 1) ∧ (0 < gH S es H a n + 1 → farI S es H (a : Int) (n : Int) = gH S es H a n ∧ gH S es H a n ≤ H) ∧ (¬ 0 < gH S es H a n + 1 → gH S es H a n = -1) := by
  have hb : btw (a : Int) S = true := by simp [btw]; omega
  have hfar : farI S es H (a : Int) (n : Int) = levI S es a n := by rw [far_in hT hb (by simp [btw]; omega)]; simp
  have hlev : levF S es H (a : Int) n = levI S es a n := by unfold levF; rw [if_pos ⟨hT, hb⟩]; simp
  have hbd : levI S es a n = -1 ∨ 0 ≤ levI S es a n := by
    have := fst_bd es a S.toNat n
    unfold levI
    omega
  refine ⟨?_, ?_, ?_⟩
  · unfold within okW gH
    rw [List.mem_map]
    constructor
    · rintro ⟨b, hb, he⟩
      obtain rfl : b = n := by omega
      have := (List.mem_filter.1 hb).2
      rw [hlev] at this
      simp only [Bool.and_eq_true, decide_eq_true_eq] at this
      rw [if_pos this]
      omega
    · intro h
      have hc : levI S es a n ≠ -1 ∧ levI S es a n ≤ H := by
        apply Classical.byContradiction
        intro hc
        rw [if_neg hc] at h
        omega
      refine ⟨n, List.mem_filter.2 ⟨List.mem_range.2 (by have := hT.2.1; omega), ?_⟩, rfl⟩
      rw [hlev]
      simpa using hc
  · intro h
    unfold gH at h ⊢
    split at h
    · rename_i hc
      rw [if_pos hc]
      exact ⟨hfar, hc.2⟩
    · omega
  · intro h
    unfold gH at h ⊢
    split at h
    · omega
    · rename_i hc; rw [if_neg hc]
theorem far_self {S H : Int} {es : List (Int × Int)} (hT : okT S es H) {a : Nat} (ha : 1 ≤ a) (ha2 : (a : Int) ≤ S) : farI S es H (a : Int) (a : Int) = 0 := by
  have hb : btw (a : Int) S = true := by simp [btw]; omega
  rw [far_in hT hb hb]
  simp only [Int.toNat_natCast]
  have := lev_le hT.2.2.2.2 hT.2.1 ha ha2 (b := a) (k := 0) (by simp [rch])
  omega
end Go.Proofs.Ytipdggjalhjpnab
