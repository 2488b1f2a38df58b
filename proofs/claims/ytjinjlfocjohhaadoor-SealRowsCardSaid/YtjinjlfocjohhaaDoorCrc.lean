/-
  Plain: the sum's register as 32 bits; a step is linear and loses nothing.
-/
import Derived.Test.YtjinjlfocjohhaaDoorPlain
namespace Go.Proofs.YtjinjlfocjohhaaDoor
open Go.RowKit
set_option linter.unusedSimpArgs false
set_option linter.unusedVariables false

abbrev W32 := BitVec 32
def poly : W32 := 1947962583#32
def mk (c : Bool) : W32 := if c then poly else 0#32
theorem mk_xor (x y : Bool) : mk (x ^^ y) = mk x ^^^ mk y := by cases x <;> cases y <;> simp [mk]
/-- a step with a bit. -/
def T (r : W32) (b : Bool) : W32 := (r <<< 1) ^^^ mk (r.msb ^^ b)
/-- a step without. -/
def S (r : W32) : W32 := (r <<< 1) ^^^ mk r.msb

theorem T_false (a : W32) : T a false = S a := by simp [S, T]
theorem T_xor (a b : W32) (x y : Bool) : T (a ^^^ b) (x ^^ y) = T a x ^^^ T b y := by
  unfold T
  rw [BitVec.msb_xor, BitVec.shiftLeft_xor_distrib]
  have e : ((a.msb ^^ b.msb) ^^ (x ^^ y)) = ((a.msb ^^ x) ^^ (b.msb ^^ y)) := by cases a.msb <;> cases b.msb <;> cases x <;> cases y <;> rfl
  rw [e, mk_xor]
  ac_rfl
theorem S_xor (a b : W32) : S (a ^^^ b) = S a ^^^ S b := by
  rw [← T_false, ← T_false, ← T_false, ← T_xor]; rfl
theorem S_zero : S 0#32 = 0#32 := by decide

/-- A step loses nothing. -/
theorem S_eq_zero {a : W32} (h : S a = 0#32) : a = 0#32 := by
  unfold S at h
  cases hm : a.msb
  · rw [hm] at h
    simp only [mk, Bool.false_eq_true, if_false, BitVec.xor_zero] at h
    apply BitVec.eq_of_getLsbD_eq
    intro i hi
    by_cases h31 : i = 31
    · subst h31
      rw [BitVec.msb_eq_getLsbD_last] at hm
      simpa using hm
    · have := congrArg (fun v : W32 => v.getLsbD (i + 1)) h
      simp at this
      have := this (by omega)
      simpa using this
  · exfalso
    rw [hm] at h
    have := congrArg (fun v : W32 => v.getLsbD 0) h
    simp [mk, poly] at this

def run (r : W32) (bs : List Bool) : W32 := bs.foldl T r
theorem run_append (r : W32) (a b : List Bool) : run r (a ++ b) = run (run r a) b := List.foldl_append
theorem run_xor : ∀ (bs es : List Bool) (a b : W32), bs.length = es.length → run (a ^^^ b) (List.zipWith (fun x y => x ^^ y) bs es) = run a bs ^^^ run b es
  | [], [], _, _, _ => rfl
  | x :: bs, y :: es, a, b, h => by
    have := run_xor bs es (T a x) (T b y) (by simpa using h)
    rw [← T_xor] at this
    exact this
  | [], _ :: _, _, _, h => by simp at h
  | _ :: _, [], _, _, h => by simp at h
theorem run_zeros (r : W32) : ∀ n, run r (List.replicate n false) = 0#32 → r = 0#32
  | 0, h => h
  | n + 1, h => by
    rw [List.replicate_succ] at h
    have h1 : run (S r) (List.replicate n false) = 0#32 := by rw [← T_false]; exact h
    exact S_eq_zero (run_zeros (S r) n h1)
theorem run_zero : ∀ n, run 0#32 (List.replicate n false) = 0#32
  | 0 => rfl
  | n + 1 => by
    rw [List.replicate_succ]
    show run (T 0#32 false) (List.replicate n false) = _
    rw [T_false, S_zero]
    exact run_zero n

/-- What brings the register to nothing in at most 32 bits is the register's own top bits. -/
theorem run_top : ∀ (es : List Bool) (r : W32), es.length ≤ 32 → run r es = 0#32 → ∀ i, i < 32 → r.getLsbD i = (es[31 - i]?).getD false
  | [], r, _, h, i, hi => by
    have : r = 0#32 := h
    subst this
    simp
  | e :: es, r, hl, h, i, hi => by
    have hl' : es.length ≤ 31 := by simpa using hl
    have ih := run_top es (T r e) (by omega) h
    have h0 := ih 0 (by decide)
    rw [List.getElem?_eq_none (by omega)] at h0
    have hc : (r.msb ^^ e) = false := by
      unfold T at h0
      cases hx : (r.msb ^^ e)
      · rfl
      · rw [hx] at h0
        simp [mk, poly] at h0
    have hT : T r e = r <<< 1 := by unfold T; rw [hc]; simp [mk]
    by_cases h31 : i = 31
    · subst h31
      have : r.getLsbD 31 = r.msb := by rw [BitVec.msb_eq_getLsbD_last]
      rw [this]
      simp
      cases hm : r.msb <;> cases e <;> simp_all
    · have hi1 := ih (i + 1) (by omega)
      rw [hT, BitVec.getLsbD_shiftLeft] at hi1
      simp only [show i + 1 < 32 by omega, decide_true, Bool.true_and, show ¬ i + 1 < 1 by omega, decide_false, Bool.not_false, Nat.add_sub_cancel] at hi1
      rw [hi1]
      have e1 : 31 - i = (31 - (i + 1)) + 1 := by omega
      rw [e1, List.getElem?_cons_succ]
theorem burst_seen (es : List Bool) (hl : es.length < 32) : run 0#32 (true :: es) ≠ 0#32 := by
  intro h
  have := run_top (true :: es) 0#32 (by simp; omega) h 31 (by decide)
  simp at this
theorem change_seen (k m : Nat) (es : List Bool) (hl : es.length < 32) : run 0#32 (List.replicate k false ++ (true :: es) ++ List.replicate m false) ≠ 0#32 := by
  intro h
  rw [run_append, run_append, run_zero] at h
  exact burst_seen es hl (run_zeros _ _ h)

/-- a byte's bits, the highest first. -/
def bits8 (x : Nat) : List Bool := [x.testBit 7, x.testBit 6, x.testBit 5, x.testBit 4, x.testBit 3, x.testBit 2, x.testBit 1, x.testBit 0]
def S8 (r : W32) : W32 := S (S (S (S (S (S (S (S r)))))))
theorem S8_xor (a b : W32) : S8 (a ^^^ b) = S8 a ^^^ S8 b := by simp only [S8, S_xor]
theorem run_bits (bs : List Bool) (hl : bs.length = 8) (r : W32) : run r bs = S8 r ^^^ run 0#32 bs := by
  have h := run_xor (List.replicate 8 false) bs r 0#32 (by simp [hl])
  have e : List.zipWith (fun x y => x ^^ y) (List.replicate 8 false) bs = bs := by
    match bs, hl with
    | [a, b, c, d, e, f, g, i], _ => simp [List.replicate]
  rw [e, BitVec.xor_zero] at h
  rw [h]
  congr 1
  simp [run, List.replicate, T_false, S8]
theorem byte_zero : ∀ x : Fin 256, run 0#32 (bits8 x.1) = S8 (BitVec.ofNat 32 (x.1 * 16777216)) := by decide +kernel
theorem byte_run (r : W32) (x : Nat) (hx : x < 256) : S8 (r ^^^ BitVec.ofNat 32 (x * 16777216)) = run r (bits8 x) := by
  rw [S8_xor, run_bits (bits8 x) rfl r, byte_zero ⟨x, hx⟩]

/-! The register as an int. -/
def toI (r : W32) : Int := (r.toNat : Int)
theorem toI_bd (r : W32) : 0 ≤ toI r ∧ toI r ≤ 4294967295 := by
  unfold toI
  have := r.isLt
  omega
theorem ofInt_toI (r : W32) : BitVec.ofInt 32 (toI r) = r := by
  apply BitVec.eq_of_toNat_eq
  unfold toI
  rw [BitVec.toNat_ofInt]
  have := r.isLt
  omega
theorem toI_inj {a b : W32} (h : toI a = toI b) : a = b := by rw [← ofInt_toI a, ← ofInt_toI b, h]
theorem bits_xor (a b : W32) : bits .xor .u32 (toI a) (toI b) = toI (a ^^^ b) := by
  unfold bits
  show IntKind.u32.wrap (((BitVec.ofInt 32 (toI a) ^^^ BitVec.ofInt 32 (toI b)).toNat : Nat) : Int) = _
  rw [ofInt_toI, ofInt_toI, IntKind.wrap_u32]
  have := toI_bd (a ^^^ b)
  unfold toI at this ⊢
  omega
theorem bits_and (a b : W32) : bits .and .u32 (toI a) (toI b) = toI (a &&& b) := by
  unfold bits
  show IntKind.u32.wrap (((BitVec.ofInt 32 (toI a) &&& BitVec.ofInt 32 (toI b)).toNat : Nat) : Int) = _
  rw [ofInt_toI, ofInt_toI, IntKind.wrap_u32]
  have := toI_bd (a &&& b)
  unfold toI at this ⊢
  omega
theorem toI_poly : toI poly = 1947962583 := by decide
theorem toI_shl (r : W32) : toI r * (2 : Int) % (4294967296 : Int) = toI (r <<< 1) := by
  unfold toI
  rw [BitVec.toNat_shiftLeft, Nat.shiftLeft_eq]
  omega
theorem msb_iff (r : W32) : r.msb = decide (2147483648 ≤ toI r) := by
  rw [BitVec.msb_eq_decide]
  unfold toI
  rw [decide_eq_decide]
  omega
def stepI (r : Int) : Int := bits .xor .u32 (r * 2 % 4294967296) (bits .and .u32 1947962583 (wrap32 r / 2147483648 % 4294967296))
theorem stepI_eq (r : W32) : stepI (toI r) = toI (S r) := by
  have hb := toI_bd r
  have e1 : wrap32 (toI r) / 2147483648 % 4294967296 = toI (if r.msb then BitVec.allOnes 32 else 0#32) := by
    rw [msb_iff]
    unfold wrap32
    by_cases h : 2147483648 ≤ toI r
    · rw [decide_eq_true h, if_pos rfl]
      show _ = (4294967295 : Int)
      omega
    · rw [decide_eq_false h]
      show _ = (0 : Int)
      omega
  unfold stepI S
  rw [e1, toI_shl, ← toI_poly, bits_and, bits_xor]
  congr 2
  cases r.msb <;> decide
def firstI (r x : Int) : Int := bits .xor .u32 r (x * 16777216)
theorem firstI_eq (r : W32) (x : Int) (h0 : 0 ≤ x) (h1 : x ≤ 255) : firstI (toI r) x = toI (r ^^^ BitVec.ofNat 32 (x.toNat * 16777216)) := by
  have e : x * 16777216 = toI (BitVec.ofNat 32 (x.toNat * 16777216)) := by
    unfold toI
    rw [BitVec.toNat_ofNat]
    omega
  unfold firstI
  rw [e, bits_xor]
def it (f : Int → Int) : Nat → Int → Int
  | 0, r => r
  | k + 1, r => f (it f k r)
theorem it_step (r : W32) (k : Nat) : ∃ q : W32, it stepI k (toI r) = toI q := by
  induction k with
  | zero => exact ⟨r, rfl⟩
  | succ k ih =>
    obtain ⟨q, hq⟩ := ih
    exact ⟨S q, by rw [it, hq, stepI_eq]⟩
def byteI (r x : Int) : Int := it stepI 8 (firstI r x)
theorem byteI_eq (r : W32) (x : Int) (h0 : 0 ≤ x) (h1 : x ≤ 255) : byteI (toI r) x = toI (run r (bits8 x.toNat)) := by
  unfold byteI
  rw [firstI_eq r x h0 h1, ← byte_run r x.toNat (by omega)]
  simp only [it, stepI_eq, S8]
def sumI (xs : List Int) : Int := xs.foldl byteI 4294967295
theorem sumI_snoc (xs : List Int) (x : Int) : sumI (xs ++ [x]) = byteI (sumI xs) x := by simp [sumI]
def allBits (xs : List Int) : List Bool := xs.flatMap fun x => bits8 x.toNat
theorem sumI_eq : ∀ (xs : List Int), (∀ x ∈ xs, 0 ≤ x ∧ x ≤ 255) → sumI xs = toI (run (BitVec.allOnes 32) (allBits xs)) := by
  have key : ∀ (xs : List Int) (r : W32), (∀ x ∈ xs, 0 ≤ x ∧ x ≤ 255) → xs.foldl byteI (toI r) = toI (run r (allBits xs)) := by
    intro xs
    induction xs with
    | nil => intro r _; rfl
    | cons x xs ih =>
      intro r h
      have hx := h x (by simp)
      rw [List.foldl_cons, byteI_eq r x hx.1 hx.2, ih _ (fun y hy => h y (by simp [hy]))]
      show _ = toI (run r (bits8 x.toNat ++ allBits xs))
      rw [run_append]
  intro xs h
  exact key xs (BitVec.allOnes 32) h
end Go.Proofs.YtjinjlfocjohhaaDoor
