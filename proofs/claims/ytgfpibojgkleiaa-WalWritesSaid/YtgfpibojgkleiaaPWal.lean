/- Records in sectors, in plain words: numbers as bytes, a record's sectors, what is there among sectors. No program in sight. -/
import Derived.Test.YtgfpibojgkleiaaMXE
namespace Go.Proofs.Ytgfpibojgkleiaa.PWal
set_option linter.unusedVariables false
/-- A number, its greatest byte first. -/
def numS (xs : List Int) : Nat := xs.foldl (fun n c => 256 * n + c.toNat) 0
def be (n size : Nat) : List Int := (List.range size).map fun i => ((n / 256 ^ (size - 1 - i) % 256 : Nat) : Int)
theorem be_len (n k : Nat) : (be n k).length = k := by simp [be]
theorem be_succ (n k : Nat) : be n (k + 1) = be (n / 256) k ++ [((n % 256 : Nat) : Int)] := by
  unfold be
  rw [List.range_succ, List.map_append]
  congr 1
  · refine List.map_congr_left fun i hi => ?_
    have hi := List.mem_range.1 hi
    rw [show k + 1 - 1 - i = (k - 1 - i) + 1 by omega, Nat.pow_succ, Nat.mul_comm (256 ^ (k - 1 - i)) 256, ← Nat.div_div_eq_div_mul]
  · simp
theorem numS_snoc (xs : List Int) (c : Int) : numS (xs ++ [c]) = 256 * numS xs + c.toNat := by simp [numS, List.foldl_append]
theorem numS_be : ∀ (k n : Nat), n < 256 ^ k → numS (be n k) = n
  | 0, n, h => by simp at h; subst h; rfl
  | k + 1, n, h => by
    rw [be_succ, numS_snoc, numS_be k (n / 256) (by rw [Nat.pow_succ] at h; omega), Int.toNat_natCast]
    omega
theorem be_wf (n k : Nat) : ∀ x ∈ be n k, 0 ≤ x ∧ x < 256 := fun x hx => by
  obtain ⟨i, _, rfl⟩ := List.mem_map.1 hx
  have : n / 256 ^ (k - 1 - i) % 256 < 256 := Nat.mod_lt _ (by decide)
  omega
theorem numS_lt : ∀ (xs : List Int), (∀ x ∈ xs, 0 ≤ x ∧ x < 256) → numS xs < 256 ^ xs.length := by
  intro xs
  have key : ∀ (xs : List Int) (n m : Nat), (∀ x ∈ xs, 0 ≤ x ∧ x < 256) → n < 256 ^ m → xs.foldl (fun n c => 256 * n + c.toNat) n < 256 ^ (m + xs.length) := by
    intro xs
    induction xs with
    | nil => intro n m _ h; exact h
    | cons x xs ih =>
      intro n m h hn
      have hx := h x (by simp)
      rw [List.foldl_cons, List.length_cons, show m + (xs.length + 1) = (m + 1) + xs.length by omega]
      refine ih _ _ (fun y hy => h y (by simp [hy])) ?_
      rw [Nat.pow_succ]
      have : x.toNat < 256 := by omega
      omega
  intro h
  have := key xs 0 0 h (by decide)
  simpa [numS] using this
def needs (n : Nat) : Nat := (n + 51) / 48
/-- A record's bytes, with its length ahead and noughts behind. -/
def bodyB (b : List Int) : List Int := be b.length 4 ++ b ++ List.replicate (48 * needs b.length - (4 + b.length)) 0
theorem needs_bd (n : Nat) : 4 + n ≤ 48 * needs n ∧ 48 * needs n < n + 52 ∧ 0 < needs n := by unfold needs; omega
theorem bodyB_len (b : List Int) : (bodyB b).length = 48 * needs b.length := by
  have := needs_bd b.length
  simp [bodyB, be_len]
  omega
def secN (gen op nx i last : Nat) (part : List Int) : List Int := be gen 4 ++ be op 4 ++ be nx 4 ++ be i 2 ++ be last 2 ++ part
theorem secN_len {gen op nx i last : Nat} {part : List Int} : (secN gen op nx i last part).length = 16 + part.length := by simp [secN, be_len]; omega
def partB (b : List Int) (i : Nat) : List Int := ((bodyB b).take ((i + 1) * 48)).drop (i * 48)
theorem partB_len {b : List Int} {i : Nat} (h : i < needs b.length) : (partB b i).length = 48 := by
  simp only [partB, List.length_drop, List.length_take, bodyB_len]
  omega
/-- The i-th sector of a record. -/
def secB (gen op nx : Nat) (b : List Int) (i : Nat) : List Int := secN gen op nx i (needs b.length - 1) (partB b i)
theorem secB_len {gen op nx : Nat} {b : List Int} {i : Nat} (h : i < needs b.length) : (secB gen op nx b i).length = 64 := by rw [secB, secN_len, partB_len h]
/-- A sector, taken apart. -/
structure Sc where
  gen : Nat
  op : Nat
  num : Nat
  place : Nat
  last : Nat
  body : List Int
def rdS (s : List Int) : Sc := ⟨numS (s.take 4), numS ((s.take 8).drop 4), numS ((s.take 12).drop 8), numS ((s.take 14).drop 12), numS ((s.take 16).drop 14), s.drop 16⟩
theorem cut_mid {α : Type} (a b c : List α) {l h : Nat} (h1 : a.length = l) (h2 : l + b.length = h) : ((a ++ (b ++ c)).take h).drop l = b := by
  rw [List.take_append, List.take_of_length_le (by omega), List.drop_append, List.drop_eq_nil_of_le (by omega), h1, Nat.sub_self, List.drop_zero, List.nil_append, List.take_append, List.take_of_length_le (by omega), show h - l - b.length = 0 by omega]
  simp
theorem rdS_secN {gen op nx i last : Nat} {part : List Int} (h1 : gen < 4294967296) (h2 : op < 4294967296) (h3 : nx < 4294967296) (h4 : i < 65536) (h5 : last < 65536) : rdS (secN gen op nx i last part) = ⟨gen, op, nx, i, last, part⟩ := by
  have e1 : (secN gen op nx i last part).take 4 = be gen 4 := by
    have := cut_mid ([] : List Int) (be gen 4) (be op 4 ++ be nx 4 ++ be i 2 ++ be last 2 ++ part) (l := 0) (h := 4) rfl (by simp [be_len])
    simpa [secN, List.append_assoc] using this
  have e2 : ((secN gen op nx i last part).take 8).drop 4 = be op 4 := by
    have := cut_mid (be gen 4) (be op 4) (be nx 4 ++ be i 2 ++ be last 2 ++ part) (l := 4) (h := 8) (be_len _ _) (by simp [be_len])
    simpa [secN, List.append_assoc] using this
  have e3 : ((secN gen op nx i last part).take 12).drop 8 = be nx 4 := by
    have := cut_mid (be gen 4 ++ be op 4) (be nx 4) (be i 2 ++ be last 2 ++ part) (l := 8) (h := 12) (by simp [be_len]) (by simp [be_len])
    simpa [secN, List.append_assoc] using this
  have e4 : ((secN gen op nx i last part).take 14).drop 12 = be i 2 := by
    have := cut_mid (be gen 4 ++ be op 4 ++ be nx 4) (be i 2) (be last 2 ++ part) (l := 12) (h := 14) (by simp [be_len]) (by simp [be_len])
    simpa [secN, List.append_assoc] using this
  have e5 : ((secN gen op nx i last part).take 16).drop 14 = be last 2 := by
    have := cut_mid (be gen 4 ++ be op 4 ++ be nx 4 ++ be i 2) (be last 2) part (l := 14) (h := 16) (by simp [be_len]) (by simp [be_len])
    simpa [secN, List.append_assoc] using this
  have e6 : (secN gen op nx i last part).drop 16 = part := by
    unfold secN
    rw [List.drop_append, List.drop_eq_nil_of_le (by simp [be_len]), show 16 - (be gen 4 ++ be op 4 ++ be nx 4 ++ be i 2 ++ be last 2).length = 0 by simp [be_len]]
    simp
  unfold rdS
  rw [e1, e2, e3, e4, e5, e6, numS_be 4 _ (by simpa using h1), numS_be 4 _ (by simpa using h2), numS_be 4 _ (by simpa using h3), numS_be 2 _ (by simpa using h4), numS_be 2 _ (by simpa using h5)]
/-- Is the sector the i-th part of the record that the first sector begins? -/
def partOk (S : Nat → List Int) (f : Sc) (at_ gen nx i : Nat) : Prop :=
  (rdS (S (at_ + i))).gen = gen ∧ (rdS (S (at_ + i))).op = f.op ∧ (rdS (S (at_ + i))).num = nx ∧ (rdS (S (at_ + i))).place = i ∧ (rdS (S (at_ + i))).last = f.last
instance (S : Nat → List Int) (f : Sc) (at_ gen nx i : Nat) : Decidable (partOk S f at_ gen nx i) := by unfold partOk; infer_instance
def bodyTo (S : Nat → List Int) (at_ m : Nat) : List Int := ((List.range m).map fun i => (rdS (S (at_ + i))).body).flatten
theorem bodyTo_succ (S : Nat → List Int) (at_ m : Nat) : bodyTo S at_ (m + 1) = bodyTo S at_ m ++ (rdS (S (at_ + m))).body := by simp [bodyTo, List.range_succ]
def noughts (xs : List Int) : Bool := xs.all fun c => c == 0
/-- The next record, if it is there. -/
def takeP (S : Nat → List Int) (to at_ gen nx low : Nat) : Option (List Int × Nat) :=
  let f := rdS (S at_)
  if f.gen ≠ gen ∨ f.num ≠ nx ∨ f.op < max low 1 ∨ f.place ≠ 0 ∨ to ≤ at_ + f.last then none
  else if ¬ ∀ i, i < f.last → partOk S f at_ gen nx (i + 1) then none
  else
    let body := bodyTo S at_ (f.last + 1)
    let n := numS (body.take 4)
    if 65536 < n ∨ needs n ≠ f.last + 1 ∨ noughts (body.drop (4 + n)) = false then none else some ((body.take (4 + n)).drop 4, f.op)
/-- All records from a place on, and where they end. -/
def scan (S : Nat → List Int) (to gen : Nat) : Nat → Nat → Nat → Nat → List (List Int) × Nat × Nat
  | 0, at_, nx, low => ([], at_, nx)
  | f + 1, at_, nx, low => if at_ < to then (match takeP S to at_ gen nx low with
      | none => ([], at_, nx)
      | some (b, o) => let r := scan S to gen f (at_ + needs b.length) (nx + 1) o; (b :: r.1, r.2)) else ([], at_, nx)
/-- The greatest opening. -/
def topTo (S : Nat → List Int) (gen from_ : Nat) : Nat → Nat
  | 0 => 0
  | m + 1 => let s := rdS (S (from_ + m)); if s.gen = gen ∧ 0 < s.num ∧ s.place ≤ s.last then max (topTo S gen from_ m) s.op else topTo S gen from_ m
end Go.Proofs.Ytgfpibojgkleiaa.PWal
