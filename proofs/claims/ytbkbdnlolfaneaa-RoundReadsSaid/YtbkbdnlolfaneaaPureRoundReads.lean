/- Any bytes, at most 1000, are read by the program as the document's numbers, for every width; widths not from 1 to 24 are refused. -/
import Derived.Test.YtbkbdnlolfaneaaPRoundReadsx3
import Derived.Test.YtbkbdnlolfaneaaMVal
namespace Go.Proofs.Ytbkbdnlolfaneaa.Pure
open Go.RowKit Go.Proofs.Ytbkbdnlolfaneaa.PRoundReads Go.Proofs.YtbkbdnlolfaneaaW.PrintWords Go.Proofs.YtbkbdnlolfaneaaW.PrintLast Go.Proofs.YtbkbdnlolfaneaaW.PrintMore
open Go.Proofs.Ytbkbdnlolfaneaa.MBase Go.Proofs.Ytbkbdnlolfaneaa.MVal
namespace RoundReadsAid

theorem anchor_at : chancerylaw04_anchor.f 40 = some true := by decide +kernel
theorem anchor_ev : Ev (fun k => chancerylaw04_anchor.f k) true := Ev.of chancerylaw04_anchor.mono anchor_at
/-- The loop that takes whole numbers out. -/
theorem unpack_l1 {b : Nat} (hb : 1 ≤ b) (hb' : b ≤ 24) {m : Int} {l : List Int} {i : Int} : ∀ (d : Nat) (out : List Int) (held : Int) (n : Nat), 0 ≤ held → held < 2 ^ n → n < b * d + b → n ≤ 60 → inR (2 ^ b) out → out.length + d < 17592186044416 →
    ∃ (out' : List Int) (held' : Int) (n' : Nat), 0 ≤ held' ∧ held' < 2 ^ n' ∧ n' < b ∧ inR (2 ^ b) out' ∧ b * out'.length + n' = b * out.length + n ∧ val (2 ^ b) out' + (2 ^ b) ^ out'.length * held' = val (2 ^ b) out + (2 ^ b) ^ out.length * held ∧
      ∀ r, Ev (fun k => round_Unpack.l0 k (b : Int) out' held' (n' : Int) l m (wrap64 (i + 1))) r → Ev (fun k => round_Unpack.l1 k (b : Int) out held (n : Int) l m i) r := by
  intro d
  induction d with
  | zero =>
    intro out held n h0 h1 hd hn hout hlen
    exact ⟨out, held, n, h0, h1, by omega, hout, rfl, rfl, fun r h => Ev.step (fun k => by rw [round_Unpack.l1, if_neg (by omega)]) h⟩
  | succ d ih =>
    intro out held n h0 h1 hd hn hout hlen
    by_cases c : n ≥ b
    · have hp : (2 : Int) ^ n = 2 ^ b * 2 ^ (n - b) := pow_split c
      have hpb := pow_pos' b
      have hp60 : (2 : Int) ^ n ≤ 2 ^ 60 := pow_le (by decide) hn
      have hm0 : 0 ≤ held % 2 ^ b := Int.emod_nonneg _ (by omega)
      have hm1 : held % 2 ^ b < 2 ^ b := Int.emod_lt_of_pos _ hpb
      have hd0 : 0 ≤ held / 2 ^ b := Int.ediv_nonneg h0 (by omega)
      have hd1 : held / 2 ^ b < 2 ^ (n - b) := Int.ediv_lt_of_lt_mul hpb (by rw [Int.mul_comm, ← hp]; exact h1)
      obtain ⟨out', held', n', a0, a1, a2, a3, a4, a5, a6⟩ := ih (out ++ [held % 2 ^ b]) (held / 2 ^ b) (n - b) hd0 hd1 (by rw [Nat.mul_succ] at hd; omega) (by omega) (inR_app.2 ⟨hout, inR_one.2 ⟨hm0, hm1⟩⟩) (by simp; omega)
      have hmask : Go.bits .and .i64 held (wrap64 (shl .i64 1 (b : Int) - 1)) = held % 2 ^ b := mask64 (by omega) h0 (by omega)
      have hshr : shr .i64 held (b : Int) = held / 2 ^ b := shr64 (by omega)
      refine ⟨out', held', n', a0, a1, a2, a3, by simp only [List.length_append, List.length_singleton, Nat.mul_add, Nat.mul_one] at a4; omega, ?_, fun r h => Ev.step (fun k => by rw [round_Unpack.l1, if_pos (by omega), if_pos (by omega), if_pos (by omega), hmask, hshr]) ?_⟩
      · rw [a5, val_snoc, List.length_append, List.length_singleton, Int.pow_succ]
        have : held = held % 2 ^ b + 2 ^ b * (held / 2 ^ b) := (Int.emod_add_mul_ediv held (2 ^ b)).symm
        generalize held % 2 ^ b = x at *
        generalize held / 2 ^ b = y at *
        subst this
        grind
      · have e : wrap64 ((n : Int) - (b : Int)) = ((n - b : Nat) : Int) := by rw [w64 (by omega) (by omega)]; omega
        rw [e]
        exact a6 r h
    · exact ⟨out, held, n, h0, h1, by omega, hout, rfl, rfl, fun r h => Ev.step (fun k => by rw [round_Unpack.l1, if_neg (by omega)]) h⟩

theorem unpack_l0 {b : Nat} (hb : 1 ≤ b) (hb' : b ≤ 24) {l : List Int} (hl : l.length ≤ 100000) (hin : inR 256 l) : ∀ (d i : Nat) (out : List Int) (held : Int) (n : Nat), i + d = l.length → 0 ≤ held → held < 2 ^ n → n < b → inR (2 ^ b) out → b * out.length + n = 8 * i →
    val (2 ^ b) out + (2 ^ b) ^ out.length * held = val 256 (l.take i) →
    ∃ r, Ev (fun k => round_Unpack.l0 k (b : Int) out held (n : Int) l (l.length : Int) (i : Int)) (r, true) ∧ inR (2 ^ b) r ∧ r.length = l.length * 8 / b ∧ ∃ X, val (2 ^ b) r + (2 ^ b) ^ r.length * X = val 256 l := by
  intro d
  induction d with
  | zero =>
    intro i out held n hi h0 h1 hn hout hlen hv
    have e : l.take i = l := List.take_of_length_le (by omega)
    rw [e] at hv
    refine ⟨out, Ev.step (f := fun _ => some (out, true)) (fun k => by rw [round_Unpack.l0, if_neg (by omega)]) (Ev.now _), hout, ?_, held, hv⟩
    have : l.length * 8 = out.length * b + n := by rw [Nat.mul_comm out.length]; omega
    rw [this, Nat.add_comm, Nat.add_mul_div_right _ _ (by omega), Nat.div_eq_of_lt hn, Nat.zero_add]
  | succ d ih =>
    intro i out held n hi h0 h1 hn hout hlen hv
    have hlt : i < l.length := by omega
    have ho : out.length ≤ b * out.length := Nat.le_mul_of_pos_left _ (by omega)
    have q1 : n + 8 < b * 8 + b := by omega
    have q2 : n + 8 ≤ 60 := by omega
    have q3 : out.length + 8 < 17592186044416 := by omega
    have q4 : (n : Int) ≤ 30 := by omega
    clear ho
    have q5 : i + 1 + d = l.length := by omega
    have q6 : b * out.length + (n + 8) = 8 * (i + 1) := by omega
    have q7 : (i : Int) < (l.length : Int) := by omega
    have q8 : (0 : Int) ≤ (i : Int) := by omega
    have q9 : (0 : Int) ≤ (n : Int) := by omega
    have htl := len_take hlt
    have hwi := Box.mk (w64_succ hlt (by omega))
    have hw : Box (wrap64 ((n : Int) + 8) = ((n + 8 : Nat) : Int)) := ⟨by rw [w64 (by omega) (by omega)]; omega⟩
    have hr : rd l (i : Int) = l.getD i 0 := rd_nat l i
    have hx01 := inR_at hin (by decide) i
    generalize hx : l.getD i 0 = x at *
    have hpn := pow_pos' n
    have hp24 : (2 : Int) ^ n ≤ 2 ^ 24 := pow_le (by decide) (by omega)
    have hp32 : (2 : Int) ^ (n + 8) = 2 ^ n * 256 := Int.pow_add ..
    have hmul : x * 2 ^ n ≤ 255 * 2 ^ n := Int.mul_le_mul_of_nonneg_right (by omega) (by omega)
    have hmul0 : 0 ≤ x * 2 ^ n := Int.mul_nonneg (by omega) (by omega)
    have hs2 : Box (shl .i64 (wrap64 x) (n : Int) = x * 2 ^ n) := ⟨by rw [w64 (by omega) (by omega)]; exact shl64 (by omega) (by omega) (by omega)⟩
    have hor : Go.bits .or .i64 held (x * 2 ^ n) = held + x * 2 ^ n := or64 n h0 h1 hmul0 (Int.mul_emod_left _ _) (by omega) (by omega)
    obtain ⟨out', held', n', a0, a1, a2, a3, a4, a5, a6⟩ := unpack_l1 hb hb' (m := (l.length : Int)) (l := l) (i := (i : Int)) 8 out (held + x * 2 ^ n) (n + 8) (by omega) (by omega) q1 q2 hout q3
    have hpow : ((2 : Int) ^ b) ^ out.length * 2 ^ n = 256 ^ i := by rw [p256, ← Int.pow_mul, ← Int.pow_add, hlen]
    obtain ⟨r, hr1, hr2⟩ := ih (i + 1) out' held' n' q5 a0 a1 a2 a3 (a4.trans q6) (by rw [a5, take_snoc hlt, hx, val_snoc, htl, ← hv, ← hpow]; grind)
    refine ⟨r, ?_, hr2⟩
    refine Ev.step (fun k => by rw [round_Unpack.l0, if_pos q7, if_pos q8, if_pos q7, if_pos q9, hr, hs2.out, hor, hw.out]) ?_
    refine a6 _ ?_
    rw [hwi.out]
    exact hr1

/-- What the program reads: each number is the document's. -/
theorem unpack_ev {b : Nat} (hb : 1 ≤ b) (hb' : b ≤ 24) {l : List Int} (hl : l.length ≤ 100000) (hin : inR 256 l) :
    ∃ r, Ev (fun k => round_Unpack.f k l (b : Int)) (r, true) ∧ r.length = l.length * 8 / b ∧ ∀ i, i < r.length → r.getD i 0 = val 256 l / 2 ^ (b * i) % 2 ^ b := by
  obtain ⟨r, h1, h2, h3, X, h4⟩ := unpack_l0 hb hb' hl hin l.length 0 [] 0 0 (by omega) (by decide) (by decide) (by omega) inR_nil (by simp) (by simp [val])
  refine ⟨r, ?_, h3, fun i hi => ?_⟩
  · unfold round_Unpack.f
    refine Ev.neg (by omega) ?_
    rw [decide_eq_false (by omega)]
    exact Ev.step (fun k => by rw [round_Unpack.j0, if_neg (by decide)]; rfl) h1
  · rw [← h4, Int.pow_mul, val_digit_app (pow_pos' b) X h2 i hi]
theorem unpack_no {b : Int} (hb : ¬ (1 ≤ b ∧ b ≤ 24)) {l : List Int} : Ev (fun k => round_Unpack.f k l b) (([] : List Int), false) := by
  have h : Ev (fun k => round_Unpack.j0 k l b true) (([] : List Int), false) := Ev.step (f := fun _ => some (([] : List Int), false)) (fun k => by rw [round_Unpack.j0, if_pos rfl]) (Ev.now _)
  unfold round_Unpack.f
  by_cases c : b < 1
  · exact Ev.pos c h
  · refine Ev.neg c ?_
    rw [decide_eq_true (by omega)]
    exact h
theorem refunpack_l1 {b : Nat} (hb : 1 ≤ b) (hb' : b ≤ 24) {l : List Int} (hl : l.length ≤ 100000) (hin : inR 256 l) {i : Nat} {n : Nat} (hi : i < n) (hn : n * b ≤ l.length * 8) : ∀ (d : Nat) (out : List Int), out.length = n → d ≤ b →
    out.getD i 0 = val 256 l / 2 ^ (b * i + d) % 2 ^ (b - d) → ∀ r, Ev (fun k => chanceryref04_Unpack.l0 k l (b : Int) (out.set i (val 256 l / 2 ^ (b * i) % 2 ^ b)) ((i + 1 : Nat) : Int)) r → Ev (fun k => chanceryref04_Unpack.l1 k l (b : Int) out (i : Int) ((d : Int) - 1)) r := by
  have hib : i * b + b ≤ l.length * 8 := by
    have h1 : (i + 1) * b ≤ n * b := Nat.mul_le_mul_right _ hi
    have h2 : (i + 1) * b = i * b + b := Nat.succ_mul ..
    omega
  have hii : i ≤ i * b := Nat.le_mul_of_pos_right _ (by omega)
  intro d
  induction d with
  | zero =>
    intro out ho hd hv r h
    have e : out.set i (val 256 l / 2 ^ (b * i) % 2 ^ b) = out := by
      apply list_ext (by simp)
      intro j hj
      by_cases c : i = j
      · subst c
        rw [hv, List.getD_eq_getElem?_getD, List.getElem?_set_self (by omega)]
        simp
      · simp only [List.getD_eq_getElem?_getD, List.getElem?_set_ne c]
    rw [e] at h
    refine Ev.step (fun k => by rw [chanceryref04_Unpack.l1, if_neg (by omega)]) ?_
    rw [w64 (by omega) (by omega)]
    exact h
  | succ d ih =>
    intro out ho hd hv r h
    have hm : (i : Int) * (b : Int) = ((i * b : Nat) : Int) := by simp
    have e0 : ((d + 1 : Nat) : Int) - 1 = (d : Int) := by omega
    have e1 : Box (wrap64 ((i : Int) * (b : Int)) = ((i * b : Nat) : Int)) := ⟨by rw [hm, w64 (by omega) (by omega)]⟩
    have e2 : Box (wrap64 (((i * b : Nat) : Int) + (d : Int)) = ((i * b + d : Nat) : Int)) := ⟨by rw [w64 (by omega) (by omega)]; omega⟩
    have e3 : Box (wrap64 (Int.tdiv ((i * b + d : Nat) : Int) 8) = (((i * b + d) / 8 : Nat) : Int)) := ⟨by rw [td (by omega), w64 (by omega) (by omega)]; omega⟩
    have e4 : Box (Int.tmod ((i * b + d : Nat) : Int) 8 = (((i * b + d) % 8 : Nat) : Int)) := ⟨by rw [tm (by omega)]; omega⟩
    have e10 : Box (wrap64 ((d : Int) - 1) = (d : Int) - 1) := ⟨w64 (by omega) (by omega)⟩
    have q1 : (d : Int) ≥ 0 := by omega
    have q2 : (0 : Int) ≤ (i : Int) := by omega
    have q3 : (i : Int) < (out.length : Int) := by omega
    have q4 : (0 : Int) ≤ (((i * b + d) / 8 : Nat) : Int) := by omega
    have q5 : (((i * b + d) / 8 : Nat) : Int) < (l.length : Int) := by omega
    have q6 : (0 : Int) ≤ (((i * b + d) % 8 : Nat) : Int) := by omega
    have q7 : d ≤ b := by omega
    have q8 : i < out.length := by omega
    have hbyte := inR_at hin (by decide) ((i * b + d) / 8)
    have hdig := val_digit (by decide) hin ((i * b + d) / 8)
    have hbit : (l.getD ((i * b + d) / 8) 0 / 2 ^ ((i * b + d) % 8)) % 2 = val 256 l / 2 ^ (i * b + d) % 2 := by
      have hs : i * b + d = 8 * ((i * b + d) / 8) + (i * b + d) % 8 := by omega
      have hq : (i * b + d) % 8 < 8 := by omega
      rw [← hdig, p256]
      generalize (i * b + d) / 8 = q at *
      generalize (i * b + d) % 8 = s at *
      rw [hs, Int.pow_add, ← dd _ _ (by have := pow_pos' (8 * q); omega)]
      generalize val 256 l / 2 ^ (8 * q) = W
      have e256 : (256 : Int) = 2 ^ s * (2 * 2 ^ (7 - s)) := by
        rw [← Int.mul_assoc, ← Int.pow_succ, ← Int.pow_add, show s + 1 + (7 - s) = 8 by omega]; rfl
      have hps := pow_pos' s
      have hmod : W = W % 256 + 256 * (W / 256) := by omega
      have hW : W / 2 ^ s = W % 256 / 2 ^ s + 2 * (2 ^ (7 - s) * (W / 256)) := by
        have h3 : W = W % 256 + 2 ^ s * (2 * (2 ^ (7 - s) * (W / 256))) := by
          rw [← Int.mul_assoc, ← Int.mul_assoc, Int.mul_assoc (2 ^ s) 2, ← e256]
          exact hmod
        generalize 2 * (2 ^ (7 - s) * (W / 256)) = Y at *
        generalize W % 256 = Z at *
        rw [h3, Int.add_mul_ediv_left _ _ (by omega)]
      rw [hW, Int.add_mul_emod_self_left]
    have e5 : rd l ((((i * b + d) / 8 : Nat)) : Int) = l.getD ((i * b + d) / 8) 0 := rd_nat ..
    have hpq : ∀ q : Nat, q < 8 → shr .u8 (l.getD ((i * b + d) / 8) 0) (q : Int) = l.getD ((i * b + d) / 8) 0 / 2 ^ q := fun q hq => by
      unfold shr
      rw [show min (Int.toNat (q : Int)) (IntKind.bits .u8) = q by simp [IntKind.bits]; omega]
    have e6 := Box.mk (hpq ((i * b + d) % 8) (by omega))
    have hsh0 : 0 ≤ l.getD ((i * b + d) / 8) 0 / 2 ^ ((i * b + d) % 8) := Int.ediv_nonneg (by omega) (Int.le_of_lt (pow_pos' _))
    have hsh1 : l.getD ((i * b + d) / 8) 0 / 2 ^ ((i * b + d) % 8) ≤ l.getD ((i * b + d) / 8) 0 := Int.ediv_le_self _ (by omega)
    have e7 : Box (Int.tmod (wrap64 (l.getD ((i * b + d) / 8) 0 / 2 ^ ((i * b + d) % 8))) 2 = val 256 l / 2 ^ (i * b + d) % 2) := ⟨by
      rw [w64 (by omega) (by omega), tm (by omega), hbit]⟩
    have e8 : rd out (i : Int) = out.getD i 0 := rd_nat ..
    have hnew : 2 * out.getD i 0 + val 256 l / 2 ^ (i * b + d) % 2 = val 256 l / 2 ^ (b * i + d) % 2 ^ (b - d) := by
      rw [hv, Nat.mul_comm i b, show b * i + (d + 1) = (b * i + d) + 1 by omega, Int.pow_succ, ← dd _ _ (by have := pow_pos' (b * i + d); omega), show b - d = (b - (d + 1)) + 1 by omega]
      exact bit_more ..
    have hp24 : (2 : Int) ^ (b - d) ≤ 2 ^ 24 := pow_le (by decide) (by omega)
    have hn0 : 0 ≤ val 256 l / 2 ^ (b * i + d) % 2 ^ (b - d) := Int.emod_nonneg _ (by have := pow_pos' (b - d); omega)
    have hn1 : val 256 l / 2 ^ (b * i + d) % 2 ^ (b - d) < 2 ^ (b - d) := Int.emod_lt_of_pos _ (pow_pos' _)
    have hbit0 : 0 ≤ val 256 l / 2 ^ (i * b + d) % 2 ∧ val 256 l / 2 ^ (i * b + d) % 2 < 2 := by omega
    have e9 : Box (wrap64 (wrap64 (2 * out.getD i 0) + val 256 l / 2 ^ (i * b + d) % 2) = val 256 l / 2 ^ (b * i + d) % 2 ^ (b - d)) := ⟨by
      rw [w64 (x := 2 * _) (by omega) (by omega), hnew, w64 (by omega) (by omega)]⟩
    refine Ev.step (fun k => by rw [chanceryref04_Unpack.l1, e0, if_pos q1, if_pos q2, if_pos q3, e1.out, e2.out, e3.out, if_pos q4, if_pos q5, e4.out, if_pos q6, e8, e5, e6.out, e7.out, e9.out, e10.out, Int.toNat_natCast]) ?_
    refine ih _ (by simpa using ho) q7 (by rw [List.getD_eq_getElem?_getD, List.getElem?_set_self q8]; rfl) r ?_
    rw [List.set_set]
    exact h

theorem refunpack_l0 {b : Nat} (hb : 1 ≤ b) (hb' : b ≤ 24) {l : List Int} (hl : l.length ≤ 100000) (hin : inR 256 l) {n : Nat} (hn : n * b ≤ l.length * 8) : ∀ (d i : Nat) (out : List Int), i + d = n → out.length = n → (∀ j, i ≤ j → j < n → out.getD j 0 = 0) →
    (∀ j, j < i → out.getD j 0 = val 256 l / 2 ^ (b * j) % 2 ^ b) →
    ∃ r, Ev (fun k => chanceryref04_Unpack.l0 k l (b : Int) out (i : Int)) (r, true) ∧ r.length = n ∧ ∀ j, j < n → r.getD j 0 = val 256 l / 2 ^ (b * j) % 2 ^ b := by
  intro d
  induction d with
  | zero =>
    intro i out hi ho hz hv
    exact ⟨out, Ev.step (f := fun _ => some (out, true)) (fun k => by rw [chanceryref04_Unpack.l0, if_neg (by omega)]) (Ev.now _), ho, fun j hj => hv j (by omega)⟩
  | succ d ih =>
    intro i out hi ho hz hv
    obtain ⟨r, h1, h2⟩ := ih (i + 1) (out.set i (val 256 l / 2 ^ (b * i) % 2 ^ b)) (by omega) (by simpa using ho)
      (fun j h h' => by rw [List.getD_eq_getElem?_getD, List.getElem?_set_ne (by omega), ← List.getD_eq_getElem?_getD]; exact hz j (by omega) h')
      (fun j h => by
        by_cases c : j = i
        · subst c
          rw [List.getD_eq_getElem?_getD, List.getElem?_set_self (by omega)]; rfl
        · rw [List.getD_eq_getElem?_getD, List.getElem?_set_ne (by omega), ← List.getD_eq_getElem?_getD]; exact hv j (by omega))
    refine ⟨r, ?_, h2⟩
    refine Ev.step (fun k => by rw [chanceryref04_Unpack.l0, if_pos (by omega), w64 (x := (b : Int) - 1) (by omega) (by omega)]) ?_
    refine refunpack_l1 hb hb' hl hin (by omega) hn b out ho (Nat.le_refl _) ?_ _ h1
    rw [hz i (by omega) (by omega), Nat.sub_self]
    simp [Int.emod_one]

theorem refunpack_ev {b : Nat} (hb : 1 ≤ b) (hb' : b ≤ 24) {l : List Int} (hl : l.length ≤ 100000) (hin : inR 256 l) :
    ∃ r, Ev (fun k => chanceryref04_Unpack.f k l (b : Int)) (r, true) ∧ r.length = l.length * 8 / b ∧ ∀ i, i < r.length → r.getD i 0 = val 256 l / 2 ^ (b * i) % 2 ^ b := by
  have hn : l.length * 8 / b * b ≤ l.length * 8 := Nat.div_mul_le_self _ _
  have hn' : l.length * 8 / b ≤ l.length * 8 := Nat.div_le_self _ _
  obtain ⟨r, h1, h2, h3⟩ := refunpack_l0 hb hb' hl hin hn (l.length * 8 / b) 0 (List.replicate (l.length * 8 / b) 0) (by omega) (by simp) (fun j _ h => by rw [List.getD_eq_getElem?_getD, List.getElem?_replicate_of_lt h]; rfl) (fun j h => by omega)
  refine ⟨r, ?_, h2, fun i hi => h3 i (by omega)⟩
  have e : wrap64 (Int.tdiv (wrap64 ((l.length : Int) * 8)) (b : Int)) = ((l.length * 8 / b : Nat) : Int) := by
    rw [w64 (x := (l.length : Int) * 8) (by omega) (by omega), td (by omega)]
    have : (l.length : Int) * 8 / (b : Int) = ((l.length * 8 / b : Nat) : Int) := by simp
    rw [this, w64 (by omega) (by omega)]
  unfold chanceryref04_Unpack.f
  refine Ev.neg (by omega) ?_
  rw [decide_eq_false (by omega)]
  exact Ev.step (fun k => by rw [chanceryref04_Unpack.j0, if_neg (by decide), if_neg (by omega), e, if_pos (by omega), Int.toNat_natCast, if_pos (by omega)]; rfl) h1
theorem refunpack_no {b : Int} (hb : ¬ (1 ≤ b ∧ b ≤ 24)) {l : List Int} : Ev (fun k => chanceryref04_Unpack.f k l b) (([] : List Int), false) := by
  have h : Ev (fun k => chanceryref04_Unpack.j0 k l b true) (([] : List Int), false) := Ev.step (f := fun _ => some (([] : List Int), false)) (fun k => by rw [chanceryref04_Unpack.j0, if_pos rfl]) (Ev.now _)
  unfold chanceryref04_Unpack.f
  by_cases c : b < 1
  · exact Ev.pos c h
  · refine Ev.neg c ?_
    rw [decide_eq_true (by omega)]
    exact h
theorem same_l0 {a b : List Int} (hl : a.length = b.length) (hlen : a.length ≤ 9000000000000000000) : ∀ (d i : Nat), i + d = a.length → (∀ j, j < i → a.getD j 0 = b.getD j 0) → Ev (fun k => chanceryref03_Same.l0 k a b (i : Int)) (decide (a = b)) := by
  intro d
  induction d with
  | zero =>
    intro i hi hj
    have e : a = b := list_ext hl (fun j h => hj j (by omega))
    rw [decide_eq_true e]
    exact Ev.step (f := fun _ => some true) (fun k => by rw [chanceryref03_Same.l0, if_neg (by omega)]) (Ev.now _)
  | succ d ih =>
    intro i hi hj
    by_cases c : a.getD i 0 = b.getD i 0
    · refine Ev.step (fun k => by rw [chanceryref03_Same.l0, if_pos (by omega), if_pos (by omega), if_pos (by omega), rd_nat, rd_nat, if_pos c, show wrap64 ((i : Int) + 1) = ((i + 1 : Nat) : Int) by rw [w64 (by omega) (by omega)]; omega]) (ih (i + 1) (by omega) ?_)
      intro j h
      by_cases e : j = i
      · exact e ▸ c
      · exact hj j (by omega)
    · rw [decide_eq_false (fun e => c (by rw [e]))]
      exact Ev.step (f := fun _ => some false) (fun k => by rw [chanceryref03_Same.l0, if_pos (by omega), if_pos (by omega), if_pos (by omega), rd_nat, rd_nat, if_neg c]) (Ev.now _)
/-- Whether two lists are one. -/
theorem same_ev {a b : List Int} (hlen : a.length ≤ 9000000000000000000) : Ev (fun k => chanceryref03_Same.f k a b) (decide (a = b)) := by
  unfold chanceryref03_Same.f
  by_cases c : a.length = b.length
  · exact Ev.pos (by omega) (same_l0 c hlen a.length 0 (by omega) (fun j h => by omega))
  · rw [decide_eq_false (fun e => c (by rw [e]))]
    exact Ev.neg (by omega) (Ev.now _)

end RoundReadsAid
open RoundReadsAid

theorem RoundReads : chancerylaw04_RoundReads.Pure := by
  intro l bits _ _ hin hw
  refine Ev.rounds ?_
  unfold chancerylaw04_RoundReads.f
  refine Ev.bind anchor_ev (Ev.pos rfl ?_)
  by_cases c0 : (l.length : Int) > 1000
  · exact Ev.pos c0 (Ev.now _)
  refine Ev.neg c0 ?_
  by_cases c1 : 1 ≤ bits ∧ bits ≤ 24
  · obtain ⟨n, rfl⟩ := Int.eq_ofNat_of_zero_le (a := bits) (by omega)
    have hin : inR 256 l := fun x hx => wfu8 (hin x hx)
    obtain ⟨x, x1, x2, x3⟩ := unpack_ev (b := n) (by omega) (by omega) (l := l) (by omega) hin
    obtain ⟨y, y1, y2, y3⟩ := refunpack_ev (b := n) (by omega) (by omega) (l := l) (by omega) hin
    have hb : l.length * 8 / n ≤ l.length * 8 := Nat.div_le_self _ _
    have e : x = y := list_ext (by omega) (fun i hi => by rw [x3 i hi, y3 i (by omega)])
    refine Ev.bind x1 (Ev.bind y1 (Ev.pos rfl (Ev.bind (same_ev (by show x.length ≤ _; omega)) ?_)))
    rw [decide_eq_true e]
    exact Ev.now _
  · refine Ev.bind (unpack_no c1) (Ev.bind (refunpack_no c1) (Ev.pos rfl (Ev.bind (same_ev (by simp)) ?_)))
    exact Ev.now _

end Go.Proofs.Ytbkbdnlolfaneaa.Pure
