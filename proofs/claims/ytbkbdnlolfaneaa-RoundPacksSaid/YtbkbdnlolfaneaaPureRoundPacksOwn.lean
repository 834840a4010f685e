/- What the program and the document pack and read, as plain mathematics over the printed functions. -/
import Derived.Test.YtbkbdnlolfaneaaPRoundPacksx1
import Derived.Test.YtbkbdnlolfaneaaPRoundPacksx3
import Derived.Test.YtbkbdnlolfaneaaPRoundPacksx4
import Derived.Test.YtbkbdnlolfaneaaMVal
namespace Go.Proofs.Ytbkbdnlolfaneaa.RoundPacksOwn
open Go.RowKit Go.Proofs.Ytbkbdnlolfaneaa.PRoundPacks Go.Proofs.YtbkbdnlolfaneaaW.PrintWords Go.Proofs.YtbkbdnlolfaneaaW.PrintLast Go.Proofs.YtbkbdnlolfaneaaW.PrintMore
open Go.Proofs.Ytbkbdnlolfaneaa.MBase Go.Proofs.Ytbkbdnlolfaneaa.MVal

theorem anchor_at : chancerylaw04_anchor.f 40 = some true := by decide +kernel
theorem anchor_ev : Ev (fun k => chancerylaw04_anchor.f k) true := Ev.of chancerylaw04_anchor.mono anchor_at
/-- The loop that lets whole bytes out. -/
theorem pack_l1 {b m : Int} {l : List Int} {i : Int} : ∀ (d : Nat) (out : List Int) (held : Int) (n : Nat), 0 ≤ held → held < 2 ^ n → n < 8 * d + 8 → n ≤ 60 → inR 256 out → out.length + d < 140737488355328 →
    ∃ (out' : List Int) (held' : Int) (n' : Nat), 0 ≤ held' ∧ held' < 2 ^ n' ∧ n' < 8 ∧ inR 256 out' ∧ 8 * out'.length + n' = 8 * out.length + n ∧ val 256 out' + 256 ^ out'.length * held' = val 256 out + 256 ^ out.length * held ∧
      ∀ r, Ev (fun k => round_Pack.l0 k b out' held' (n' : Int) l m (wrap64 (i + 1))) r → Ev (fun k => round_Pack.l1 k b out held (n : Int) l m i) r := by
  intro d
  induction d with
  | zero =>
    intro out held n h0 h1 hd hn hout hlen
    exact ⟨out, held, n, h0, h1, by omega, hout, rfl, rfl, fun r h => Ev.step (fun k => by rw [round_Pack.l1, if_neg (by omega)]) h⟩
  | succ d ih =>
    intro out held n h0 h1 hd hn hout hlen
    by_cases c : n ≥ 8
    · have hp : (2 : Int) ^ n = 256 * 2 ^ (n - 8) := pow_split c
      have hm : 0 ≤ held % 256 ∧ held % 256 < 256 := by omega
      obtain ⟨out', held', n', a0, a1, a2, a3, a4, a5, a6⟩ := ih (out ++ [held % 256]) (held / 256) (n - 8) (by omega) (by omega) (by omega) (by omega) (inR_app.2 ⟨hout, inR_one.2 hm⟩) (by simp; omega)
      refine ⟨out', held', n', a0, a1, a2, a3, by simp at a4; omega, ?_, fun r h => Ev.step (fun k => by rw [round_Pack.l1, if_pos (by omega), if_pos (by omega)]) ?_⟩
      · rw [a5, val_snoc, List.length_append, List.length_singleton, Int.pow_succ]
        have : held = held % 256 + 256 * (held / 256) := by omega
        generalize held % 256 = x at *
        generalize held / 256 = y at *
        subst this
        grind
      · have e : wrap64 ((n : Int) - 8) = ((n - 8 : Nat) : Int) := by rw [w64 (by omega) (by omega)]; omega
        rw [e]
        exact a6 r h
    · exact ⟨out, held, n, h0, h1, by omega, hout, rfl, rfl, fun r h => Ev.step (fun k => by rw [round_Pack.l1, if_neg (by omega)]) h⟩

theorem pack_l0 {b : Nat} (hb : 1 ≤ b) (hb' : b ≤ 24) {l : List Int} (hl : l.length ≤ 100000) : ∀ (d i : Nat) (out : List Int) (held : Int) (n : Nat), i + d = l.length → 0 ≤ held → held < 2 ^ n → n < 8 → inR 256 out → 8 * out.length + n = i * b →
    val 256 out + 256 ^ out.length * held = val (2 ^ b) (l.take i) → inR (2 ^ b) (l.take i) →
    ∃ r, Ev (fun k => round_Pack.l0 k (b : Int) out held (n : Int) l (l.length : Int) (i : Int)) r ∧
      ((inR (2 ^ b) (l.drop i) ∧ r.2 = true ∧ inR 256 r.1 ∧ r.1.length = (l.length * b + 7) / 8 ∧ val 256 r.1 = val (2 ^ b) l) ∨ (¬ inR (2 ^ b) (l.drop i) ∧ r = ([], false))) := by
  intro d
  induction d with
  | zero =>
    intro i out held n hi h0 h1 hn hout hlen hv hin
    have e : l.take i = l := List.take_of_length_le (by omega)
    have e' : l.drop i = [] := List.drop_of_length_le (by omega)
    have hlb : l.length * b ≤ 100000 * 24 := Nat.mul_le_mul hl hb'
    have hi' : i = l.length := by omega
    subst hi'
    rw [e] at hv
    rw [e']
    by_cases c : n > 0
    · have hp : (2 : Int) ^ n ≤ 2 ^ 8 := pow_le (by decide) (by omega)
      have hh : held % 256 = held := Int.emod_eq_of_lt h0 (by omega)
      refine ⟨(out ++ [held % 256], true), Ev.step (f := fun _ => some (out ++ [held % 256], true)) (fun k => by rw [round_Pack.l0, if_neg (by omega), if_pos (by omega), if_pos (by omega)]) (Ev.now _), .inl ⟨inR_nil, rfl, inR_app.2 ⟨hout, inR_one.2 (by omega)⟩, ?_, ?_⟩⟩
      · simp only [List.length_append, List.length_singleton]; omega
      · rw [val_snoc, hh, hv]
    · have hn0 : n = 0 := by omega
      subst hn0
      have hh : held = 0 := by simp at h1; omega
      subst hh
      refine ⟨(out, true), Ev.step (f := fun _ => some (out, true)) (fun k => by rw [round_Pack.l0, if_neg (by omega), if_neg (by omega)]) (Ev.now _), .inl ⟨inR_nil, rfl, hout, ?_, ?_⟩⟩
      · show out.length = _; omega
      · rw [← hv]; simp
  | succ d ih =>
    intro i out held n hi h0 h1 hn hout hlen hv hin
    have hlt : i < l.length := by omega
    have hw : Box (wrap64 ((n : Int) + (b : Int)) = ((n + b : Nat) : Int)) := ⟨by rw [w64 (by omega) (by omega)]; omega⟩
    have hwi := Box.mk (w64_succ hlt (by omega))
    have htl := len_take hlt
    have q1 : i + 1 + d = l.length := by omega
    have q2 : n + b < 8 * 3 + 8 := by omega
    have q3 : n + b ≤ 60 := by omega
    have hpb := pow_pos' b
    have hp24 : (2 : Int) ^ b ≤ 2 ^ 24 := pow_le (by decide) hb'
    have hp8 : (2 : Int) ^ n ≤ 2 ^ 8 := pow_le (by decide) (by omega)
    have hdrop := drop_cons hlt
    have hlb : i * b ≤ 100000 * 24 := Nat.mul_le_mul (by omega) hb'
    have hr : rd l (i : Int) = l.getD i 0 := rd_nat l i
    have hs1 : Box (shl .i64 1 (b : Int) = 2 ^ b) := ⟨by rw [shl64 (by decide) (by omega) (by omega), Int.one_mul]⟩
    generalize hx : l.getD i 0 = x at *
    have no : ∀ h : ¬ (0 ≤ x ∧ x < 2 ^ b), ¬ inR (2 ^ b) (l.drop i) := fun h h' => h (inR_cons.1 (hdrop ▸ h')).1
    have out_ev : ∀ (c d e f g h q t), Ev (fun k => round_Pack.j2 k c d e f g h q t true) (([] : List Int), false) := fun c d e f g h q t =>
      Ev.step (f := fun _ => some (([] : List Int), false)) (fun k => by rw [round_Pack.j2, if_pos rfl]) (Ev.now _)
    by_cases c0 : x < 0
    · refine ⟨_, Ev.step (fun k => by rw [round_Pack.l0, if_pos (by omega), if_pos (by omega), if_pos (by omega), hr, if_pos c0]) (out_ev ..), .inr ⟨no (by omega), rfl⟩⟩
    by_cases c1 : x ≥ 2 ^ b
    · refine ⟨_, Ev.step (fun k => by rw [round_Pack.l0, if_pos (by omega), if_pos (by omega), if_pos (by omega), hr, if_neg c0, if_pos (by omega), hs1.out, decide_eq_true c1]) (out_ev ..), .inr ⟨no (by omega), rfl⟩⟩
    have hp31 : (2 : Int) ^ (n + b) = 2 ^ n * 2 ^ b := Int.pow_add ..
    have hpn := pow_pos' n
    have hmul : x * 2 ^ n ≤ (2 ^ b - 1) * 2 ^ n := Int.mul_le_mul_of_nonneg_right (by omega) (by omega)
    have hmul0 : 0 ≤ x * 2 ^ n := Int.mul_nonneg (by omega) (by omega)
    have hmul1 : (2 ^ b - 1) * 2 ^ n = 2 ^ (n + b) - (2 : Int) ^ n := by rw [hp31, Int.sub_mul, Int.one_mul, Int.mul_comm]
    have hp32 : (2 : Int) ^ (n + b) ≤ 2 ^ 32 := pow_le (by decide) (by omega)
    have hs2 := Box.mk (shl64 (x := x) (n := n) (by omega) (by omega) (by omega))
    have hor : Go.bits .or .i64 held (x * 2 ^ n) = held + x * 2 ^ n := or64 n h0 h1 hmul0 (Int.mul_emod_left _ _) (by omega) (by omega)
    obtain ⟨out', held', n', a0, a1, a2, a3, a4, a5, a6⟩ := pack_l1 (b := (b : Int)) (m := (l.length : Int)) (l := l) (i := (i : Int)) 3 out (held + x * 2 ^ n) (n + b) (by omega) (by omega) q2 q3 hout (by omega)
    have hpow : (256 : Int) ^ out.length * 2 ^ n = (2 ^ b) ^ i := by
      rw [p256, ← Int.pow_add, hlen, Nat.mul_comm, Int.pow_mul]
    obtain ⟨r, hr1, hr2⟩ := ih (i + 1) out' held' n' q1 a0 a1 a2 a3 (by rw [a4, Nat.add_mul]; omega)
      (by rw [a5, take_snoc hlt, hx, val_snoc, htl, ← hv, ← hpow]; grind) (by rw [take_snoc hlt, hx]; exact inR_app.2 ⟨hin, inR_one.2 (by omega)⟩)
    refine ⟨r, ?_, ?_⟩
    · refine Ev.step (fun k => by rw [round_Pack.l0, if_pos (by omega), if_pos (by omega), if_pos (by omega), hr, if_neg c0, if_pos (by omega), hs1.out, decide_eq_false c1]) ?_
      refine Ev.step (fun k => by rw [round_Pack.j2, if_neg (by decide), if_pos (by omega), hs2.out, hor, hw.out]) ?_
      refine a6 r ?_
      rw [hwi.out]
      exact hr1
    · rcases hr2 with ⟨q1, q2⟩ | ⟨q1, q2⟩
      · exact .inl ⟨by rw [hdrop]; exact inR_cons.2 ⟨by omega, q1⟩, q2⟩
      · exact .inr ⟨fun h => q1 (inR_cons.1 (hdrop ▸ h)).2, q2⟩

/-- What the program packs. -/
theorem pack_ev {b : Nat} (hb : 1 ≤ b) (hb' : b ≤ 24) {l : List Int} (hl : l.length ≤ 100000) :
    ∃ r, Ev (fun k => round_Pack.f k l (b : Int)) r ∧ ((inR (2 ^ b) l ∧ r.2 = true ∧ inR 256 r.1 ∧ r.1.length = (l.length * b + 7) / 8 ∧ val 256 r.1 = val (2 ^ b) l) ∨ (¬ inR (2 ^ b) l ∧ r = ([], false))) := by
  obtain ⟨r, h1, h2⟩ := pack_l0 hb hb' hl l.length 0 [] 0 0 (by omega) (by decide) (by decide) (by decide) inR_nil (by simp) (by simp [val]) (by simpa using inR_nil)
  refine ⟨r, ?_, by simpa using h2⟩
  unfold round_Pack.f
  refine Ev.neg (by omega) ?_
  rw [decide_eq_false (by omega)]
  exact Ev.step (fun k => by rw [round_Pack.j0, if_neg (by decide)]; rfl) h1
theorem pack_no {b : Int} (hb : ¬ (1 ≤ b ∧ b ≤ 24)) {l : List Int} : Ev (fun k => round_Pack.f k l b) (([] : List Int), false) := by
  have h : Ev (fun k => round_Pack.j0 k l b true) (([] : List Int), false) := Ev.step (f := fun _ => some (([] : List Int), false)) (fun k => by rw [round_Pack.j0, if_pos rfl]) (Ev.now _)
  unfold round_Pack.f
  by_cases c : b < 1
  · exact Ev.pos c h
  · refine Ev.neg c ?_
    rw [decide_eq_true (by omega)]
    exact h
/-- The document's bits of one number. -/
theorem bits_l1 {b : Nat} (hb' : b ≤ 24) {l : List Int} {i : Nat} : ∀ (d q : Nat) (out : List Int) (v : Int), q + d = b → 0 ≤ v → v < 2 ^ d → inR 2 out → out.length + d < 17592186044416 →
    ∃ out', inR 2 out' ∧ out'.length = out.length + d ∧ val 2 out' = val 2 out + 2 ^ out.length * v ∧
      ∀ r, Ev (fun k => chanceryref04_Bits.l0 k l (b : Int) out' (wrap64 ((i : Int) + 1))) r → Ev (fun k => chanceryref04_Bits.l1 k l (b : Int) out (i : Int) v (q : Int)) r := by
  intro d
  induction d with
  | zero =>
    intro q out v hq h0 h1 hout hlen
    have hv : v = 0 := by simp at h1; omega
    exact ⟨out, hout, rfl, by simp [hv], fun r h => Ev.step (fun k => by rw [chanceryref04_Bits.l1, if_neg (by omega)]) h⟩
  | succ d ih =>
    intro q out v hq h0 h1 hout hlen
    have hp : (2 : Int) ^ (d + 1) = 2 ^ d * 2 := Int.pow_succ ..
    have hp24 : (2 : Int) ^ (d + 1) ≤ 2 ^ 24 := pow_le (by decide) (by omega)
    obtain ⟨out', a0, a1, a2, a3⟩ := ih (q + 1) (out ++ [v % 2]) (v / 2) (by omega) (by omega) (by omega) (inR_app.2 ⟨hout, inR_one.2 (by omega)⟩) (by simp; omega)
    refine ⟨out', a0, by rw [a1]; simp; omega, ?_, fun r h => Ev.step (fun k => by rw [chanceryref04_Bits.l1, if_pos (by omega), if_pos (by omega), tm h0, td h0, w64 (x := v / 2) (by omega) (by omega), show wrap64 ((q : Int) + 1) = ((q + 1 : Nat) : Int) by rw [w64 (by omega) (by omega)]; omega]) (a3 r h)⟩
    rw [a2, val_snoc, List.length_append, List.length_singleton, Int.pow_succ]
    have : v = v % 2 + 2 * (v / 2) := by omega
    generalize v % 2 = x at *
    generalize v / 2 = y at *
    subst this
    grind

theorem bits_l0 {b : Nat} (hb' : b ≤ 24) {l : List Int} (hl : l.length ≤ 100000) (hin : inR (2 ^ b) l) : ∀ (d i : Nat) (out : List Int), i + d = l.length → inR 2 out → out.length = i * b → val 2 out = val (2 ^ b) (l.take i) →
    ∃ r, Ev (fun k => chanceryref04_Bits.l0 k l (b : Int) out (i : Int)) r ∧ inR 2 r ∧ r.length = l.length * b ∧ val 2 r = val (2 ^ b) l := by
  intro d
  induction d with
  | zero =>
    intro i out hi hout hlen hv
    have hi' : i = l.length := by omega
    subst hi'
    exact ⟨out, Ev.step (f := fun _ => some out) (fun k => by rw [chanceryref04_Bits.l0, if_neg (by omega)]) (Ev.now _), hout, hlen, by rw [hv, List.take_length]⟩
  | succ d ih =>
    intro i out hi hout hlen hv
    have hlt : i < l.length := by omega
    have hx := inR_at hin (pow_pos' b) i
    have hlb : i * b ≤ 100000 * 24 := Nat.mul_le_mul (by omega) hb'
    obtain ⟨out', a0, a1, a2, a3⟩ := bits_l1 hb' (l := l) (i := i) b 0 out (l.getD i 0) (by omega) hx.1 hx.2 hout (by omega)
    have htl : (l.take i).length = i := by rw [List.length_take]; omega
    obtain ⟨r, r1, r2⟩ := ih (i + 1) out' (by omega) a0 (by rw [a1, hlen, Nat.add_mul]; omega) (by
      have e : (2 : Int) ^ (i * b) = (2 ^ b) ^ i := by rw [← Int.pow_mul, Nat.mul_comm]
      rw [a2, take_snoc hlt, val_snoc, htl, hv, hlen, e])
    refine ⟨r, Ev.step (fun k => by rw [chanceryref04_Bits.l0, if_pos (by omega), if_pos (by omega), rd_nat]; rfl) (a3 r ?_), r2⟩
    rw [w64_succ hlt (by omega)]
    exact r1

theorem bits_ev {b : Nat} (hb' : b ≤ 24) {l : List Int} (hl : l.length ≤ 100000) (hin : inR (2 ^ b) l) :
    ∃ r, Ev (fun k => chanceryref04_Bits.f k l (b : Int)) r ∧ inR 2 r ∧ r.length = l.length * b ∧ val 2 r = val (2 ^ b) l := by
  unfold chanceryref04_Bits.f
  exact bits_l0 hb' hl hin l.length 0 [] (by omega) inR_nil (by simp) (by simp [val])

/-- The document's bits, laid into bytes. -/
theorem refpack_l1 {L : List Int} (hL : L.length ≤ 10000000) (hin : inR 2 L) : ∀ (d i : Nat) (out : List Int), i + d = L.length → out.length = (L.length + 7) / 8 → inR 256 out → val 256 out = val 2 (L.take i) →
    ∃ r, Ev (fun k => chanceryref04_Pack.l1 k L out (i : Int)) (r, true) ∧ inR 256 r ∧ r.length = (L.length + 7) / 8 ∧ val 256 r = val 2 L := by
  intro d
  induction d with
  | zero =>
    intro i out hi hlen hout hv
    exact ⟨out, Ev.step (f := fun _ => some (out, true)) (fun k => by rw [chanceryref04_Pack.l1, if_neg (by omega)]) (Ev.now _), hout, hlen, by rw [hv, List.take_of_length_le (by omega)]⟩
  | succ d ih =>
    intro i out hi hlen hout hv
    have hlt : i < L.length := by omega
    have hx := inR_at hin (by decide) i
    have e1 : Box (wrap64 (Int.tdiv (i : Int) 8) = ((i / 8 : Nat) : Int)) := ⟨by rw [td (by omega), w64 (by omega) (by omega)]; omega⟩
    have e2 : Box (Int.tmod (i : Int) 8 = ((i % 8 : Nat) : Int)) := ⟨by rw [tm (by omega)]; omega⟩
    have e7 := Box.mk (w64_succ hlt (by omega))
    have q1 : i + 1 + d = L.length := by omega
    have q2 : i / 8 < out.length := by omega
    have q3 : (0 : Int) ≤ ((i / 8 : Nat) : Int) := by omega
    have q4 : ((i / 8 : Nat) : Int) < (out.length : Int) := by omega
    have q5 : (i : Int) < (L.length : Int) := by omega
    have q6 : (0 : Int) ≤ (i : Int) := by omega
    have q7 : (0 : Int) ≤ ((i % 8 : Nat) : Int) := by omega
    have htl := len_take hlt
    have e3 : rd L (i : Int) = L.getD i 0 := rd_nat ..
    have e4 : rd out (((i / 8 : Nat)) : Int) = out.getD (i / 8) 0 := rd_nat ..
    have hps := pow_pos' (i % 8)
    have hps7 : (2 : Int) ^ (i % 8) ≤ 2 ^ 7 := pow_le (by decide) (by omega)
    have hmul0 : 0 ≤ L.getD i 0 * 2 ^ (i % 8) := Int.mul_nonneg hx.1 (by omega)
    have hmul1 : L.getD i 0 * 2 ^ (i % 8) ≤ 1 * 2 ^ (i % 8) := Int.mul_le_mul_of_nonneg_right (by omega) (by omega)
    have e5 : Box (shl .i64 (L.getD i 0) ((i % 8 : Nat) : Int) % 256 = L.getD i 0 * 2 ^ (i % 8)) := ⟨by
      rw [shl64 hx.1 (by omega) (by omega), Int.emod_eq_of_lt hmul0 (by omega)]⟩
    have hvb := val_bd (by decide) (inR_take hin i)
    rw [← hv, List.length_take, Nat.min_eq_left (by omega)] at hvb
    have hlow : out.getD (i / 8) 0 < 2 ^ (i % 8) := by
      rw [← val_digit (by decide) hout (i / 8), p256]
      have h8 : i = 8 * (i / 8) + i % 8 := by omega
      have hlt2 : val 256 out / 2 ^ (8 * (i / 8)) < 2 ^ (i % 8) := by
        apply Int.ediv_lt_of_lt_mul (pow_pos' _)
        rw [← Int.pow_add, Nat.add_comm, ← h8]
        exact hvb.2
      have hge : 0 ≤ val 256 out / 2 ^ (8 * (i / 8)) := Int.ediv_nonneg hvb.1 (Int.le_of_lt (pow_pos' _))
      rw [Int.emod_eq_of_lt hge (by omega)]
      exact hlt2
    have hbyte := inR_at hout (by decide) (i / 8)
    have e6 : Go.bits .or .u8 (out.getD (i / 8) 0) (L.getD i 0 * 2 ^ (i % 8)) = out.getD (i / 8) 0 + L.getD i 0 * 2 ^ (i % 8) :=
      oru8 (i % 8) hbyte.1 hlow hmul0 (Int.mul_emod_left _ _) (by omega) (by omega)
    obtain ⟨r, r1, r2⟩ := ih (i + 1) (out.set (i / 8) (out.getD (i / 8) 0 + L.getD i 0 * 2 ^ (i % 8))) q1 (by simpa using hlen) (inR_set hout (by omega) (by omega)) (by
      rw [val_set _ _ _ q2, take_snoc hlt, val_snoc, htl, hv, p256]
      have h8 : (2 : Int) ^ i = 2 ^ (i % 8) * 2 ^ (8 * (i / 8)) := by rw [← Int.pow_add]; congr 1; omega
      rw [h8]
      grind)
    refine ⟨r, Ev.step (fun k => by rw [chanceryref04_Pack.l1, if_pos q5, e1.out, if_pos q3, if_pos q4, if_pos q6, e2.out, if_pos q7, e3, e4, e5.out, e6, Int.toNat_natCast, e7.out]) r1, r2⟩

theorem refpack_l0 {b : Nat} (hb : 1 ≤ b) (hb' : b ≤ 24) {l : List Int} (hl : l.length ≤ 100000) : ∀ (d i : Nat), i + d = l.length → inR (2 ^ b) (l.take i) →
    ∃ r, Ev (fun k => chanceryref04_Pack.l0 k l (b : Int) (i : Int)) r ∧
      ((inR (2 ^ b) l ∧ r.2 = true ∧ inR 256 r.1 ∧ r.1.length = (l.length * b + 7) / 8 ∧ val 256 r.1 = val (2 ^ b) l) ∨ (¬ inR (2 ^ b) l ∧ r = ([], false))) := by
  intro d
  induction d with
  | zero =>
    intro i hi hin
    rw [List.take_of_length_le (by omega)] at hin
    obtain ⟨L, h1, h2, h3, h4⟩ := bits_ev hb' hl hin
    have hlb : l.length * b ≤ 100000 * 24 := Nat.mul_le_mul hl hb'
    have q1 : (0 : Int) ≤ (((L.length + 7) / 8 : Nat) : Int) := Int.natCast_nonneg _
    have q2 : (((L.length + 7) / 8 : Nat) : Int).toNat ≤ 281474976710656 := by rw [Int.toNat_natCast, h3]; omega
    have hLl : L.length ≤ 10000000 := by omega
    have e : Box (wrap64 (Int.tdiv (wrap64 ((L.length : Int) + 7)) 8) = (((L.length + 7) / 8 : Nat) : Int)) := ⟨by
      rw [w64 (x := (L.length : Int) + 7) (by omega) (by omega), td (by omega), w64 (by omega) (by omega)]
      omega⟩
    obtain ⟨r, r1, r2, r3, r4⟩ := refpack_l1 (L := L) hLl h2 L.length 0 (List.replicate ((L.length + 7) / 8) 0) (by omega) (by simp) (inR_replicate (by decide) _) (by rw [val_replicate]; rfl)
    refine ⟨(r, true), ?_, .inl ⟨hin, rfl, r2, by rw [r3, h3], by rw [r4, h4]⟩⟩
    refine Ev.step (fun k => by rw [chanceryref04_Pack.l0, if_neg (by omega)]) ?_
    refine Ev.bind h1 ?_
    rw [e.out]
    refine Ev.pos q1 (Ev.pos q2 ?_)
    rw [Int.toNat_natCast]
    exact r1
  | succ d ih =>
    intro i hi hin
    have hlt : i < l.length := by omega
    have hr : rd l (i : Int) = l.getD i 0 := rd_nat l i
    have hwi := Box.mk (w64_succ hlt (by omega))
    have q1 : (i : Int) < (l.length : Int) := by omega
    have q2 : (0 : Int) ≤ (i : Int) := by omega
    have q3 : (0 : Int) ≤ (b : Int) := by omega
    have q4 : i + 1 + d = l.length := by omega
    have hp24 : (2 : Int) ^ b ≤ 2 ^ 24 := pow_le (by decide) hb'
    have hs1 : Box (shl .i64 1 (b : Int) = 2 ^ b) := ⟨by rw [shl64 (by decide) (by omega) (by omega), Int.one_mul]⟩
    have no : ∀ h : ¬ (0 ≤ l.getD i 0 ∧ l.getD i 0 < 2 ^ b), ¬ inR (2 ^ b) l := fun h h' => h (inR_at h' (pow_pos' b) i)
    by_cases c0 : l.getD i 0 < 0
    · exact ⟨_, Ev.step (f := fun _ => some (([] : List Int), false)) (fun k => by rw [chanceryref04_Pack.l0, if_pos q1, if_pos q2, hr, if_pos c0]) (Ev.now _), .inr ⟨no (by omega), rfl⟩⟩
    by_cases c1 : l.getD i 0 ≥ 2 ^ b
    · exact ⟨_, Ev.step (f := fun _ => some (([] : List Int), false)) (fun k => by rw [chanceryref04_Pack.l0, if_pos q1, if_pos q2, hr, if_neg c0, if_pos q3, hs1.out, if_pos c1]) (Ev.now _), .inr ⟨no (by omega), rfl⟩⟩
    obtain ⟨r, r1, r2⟩ := ih (i + 1) q4 (by rw [take_snoc hlt]; exact inR_app.2 ⟨hin, inR_one.2 (by omega)⟩)
    exact ⟨r, Ev.step (fun k => by rw [chanceryref04_Pack.l0, if_pos q1, if_pos q2, hr, if_neg c0, if_pos q3, hs1.out, if_neg c1, hwi.out]) r1, r2⟩

/-- What the document packs. -/
theorem refpack_ev {b : Nat} (hb : 1 ≤ b) (hb' : b ≤ 24) {l : List Int} (hl : l.length ≤ 100000) :
    ∃ r, Ev (fun k => chanceryref04_Pack.f k l (b : Int)) r ∧ ((inR (2 ^ b) l ∧ r.2 = true ∧ inR 256 r.1 ∧ r.1.length = (l.length * b + 7) / 8 ∧ val 256 r.1 = val (2 ^ b) l) ∨ (¬ inR (2 ^ b) l ∧ r = ([], false))) := by
  obtain ⟨r, h1, h2⟩ := refpack_l0 hb hb' hl l.length 0 (by omega) (by simpa using inR_nil)
  refine ⟨r, ?_, h2⟩
  unfold chanceryref04_Pack.f
  refine Ev.neg (by omega) ?_
  rw [decide_eq_false (by omega)]
  exact Ev.step (fun k => by rw [chanceryref04_Pack.j0, if_neg (by decide)]; rfl) h1
theorem refpack_no {b : Int} (hb : ¬ (1 ≤ b ∧ b ≤ 24)) {l : List Int} : Ev (fun k => chanceryref04_Pack.f k l b) (([] : List Int), false) := by
  have h : Ev (fun k => chanceryref04_Pack.j0 k l b true) (([] : List Int), false) := Ev.step (f := fun _ => some (([] : List Int), false)) (fun k => by rw [chanceryref04_Pack.j0, if_pos rfl]) (Ev.now _)
  unfold chanceryref04_Pack.f
  by_cases c : b < 1
  · exact Ev.pos c h
  · refine Ev.neg c ?_
    rw [decide_eq_true (by omega)]
    exact h
/-- The loop that takes whole numbers out. -/
theorem unpack_l1 {b : Nat} (hb : 1 ≤ b) (hb' : b ≤ 24) {m : Int} {l : List Int} {i : Int} : ∀ (d : Nat) (out : List Int) (held : Int) (n : Nat), 0 ≤ held → held < 2 ^ n → n < b * d + b → n ≤ 60 → inR (2 ^ b) out → out.length + d < 17592186044416 →
    ∃ (out' : List Int) (held' : Int) (n' : Nat), 0 ≤ held' ∧ held' < 2 ^ n' ∧ n' < b ∧ inR (2 ^ b) out' ∧ b * out'.length + n' = b * out.length + n ∧ val (2 ^ b) out' + (2 ^ b) ^ out'.length * held' = val (2 ^ b) out + (2 ^ b) ^ out.length * held ∧
      ∀ r, Ev (fun k => round_Unpack.l0 k (b : Int) out' held' (n' : Int) l m (wrap64 (i + 1))) r → Ev (fun k => round_Unpack.l1 k (b : Int) out held (n : Int) l m i) r := by
  intro d
  induction d with
  | zero =>
    intro out held n h0 h1 hd hn hout hlen
    exact ⟨out, held, n, h0, h1, by omega, hout, rfl, rfl, fun r h => Ev.step (fun k => by rw [round_Unpack.l1, if_neg (by omega)]) h⟩
  | succ d ih =>
    intro out held n h0 h1 hd hn hout hlen
    by_cases c : n ≥ b
    · have hp : (2 : Int) ^ n = 2 ^ b * 2 ^ (n - b) := pow_split c
      have hpb := pow_pos' b
      have hp60 : (2 : Int) ^ n ≤ 2 ^ 60 := pow_le (by decide) hn
      have hm0 : 0 ≤ held % 2 ^ b := Int.emod_nonneg _ (by omega)
      have hm1 : held % 2 ^ b < 2 ^ b := Int.emod_lt_of_pos _ hpb
      have hd0 : 0 ≤ held / 2 ^ b := Int.ediv_nonneg h0 (by omega)
      have hd1 : held / 2 ^ b < 2 ^ (n - b) := Int.ediv_lt_of_lt_mul hpb (by rw [Int.mul_comm, ← hp]; exact h1)
      obtain ⟨out', held', n', a0, a1, a2, a3, a4, a5, a6⟩ := ih (out ++ [held % 2 ^ b]) (held / 2 ^ b) (n - b) hd0 hd1 (by rw [Nat.mul_succ] at hd; omega) (by omega) (inR_app.2 ⟨hout, inR_one.2 ⟨hm0, hm1⟩⟩) (by simp; omega)
      have hmask : Go.bits .and .i64 held (wrap64 (shl .i64 1 (b : Int) - 1)) = held % 2 ^ b := mask64 (by omega) h0 (by omega)
      have hshr : shr .i64 held (b : Int) = held / 2 ^ b := shr64 (by omega)
      refine ⟨out', held', n', a0, a1, a2, a3, by simp only [List.length_append, List.length_singleton, Nat.mul_add, Nat.mul_one] at a4; omega, ?_, fun r h => Ev.step (fun k => by rw [round_Unpack.l1, if_pos (by omega), if_pos (by omega), if_pos (by omega), hmask, hshr]) ?_⟩
      · rw [a5, val_snoc, List.length_append, List.length_singleton, Int.pow_succ]
        have : held = held % 2 ^ b + 2 ^ b * (held / 2 ^ b) := (Int.emod_add_mul_ediv held (2 ^ b)).symm
        generalize held % 2 ^ b = x at *
        generalize held / 2 ^ b = y at *
        subst this
        grind
      · have e : wrap64 ((n : Int) - (b : Int)) = ((n - b : Nat) : Int) := by rw [w64 (by omega) (by omega)]; omega
        rw [e]
        exact a6 r h
    · exact ⟨out, held, n, h0, h1, by omega, hout, rfl, rfl, fun r h => Ev.step (fun k => by rw [round_Unpack.l1, if_neg (by omega)]) h⟩

theorem unpack_l0 {b : Nat} (hb : 1 ≤ b) (hb' : b ≤ 24) {l : List Int} (hl : l.length ≤ 100000) (hin : inR 256 l) : ∀ (d i : Nat) (out : List Int) (held : Int) (n : Nat), i + d = l.length → 0 ≤ held → held < 2 ^ n → n < b → inR (2 ^ b) out → b * out.length + n = 8 * i →
    val (2 ^ b) out + (2 ^ b) ^ out.length * held = val 256 (l.take i) →
    ∃ r, Ev (fun k => round_Unpack.l0 k (b : Int) out held (n : Int) l (l.length : Int) (i : Int)) (r, true) ∧ inR (2 ^ b) r ∧ r.length = l.length * 8 / b ∧ ∃ X, val (2 ^ b) r + (2 ^ b) ^ r.length * X = val 256 l := by
  intro d
  induction d with
  | zero =>
    intro i out held n hi h0 h1 hn hout hlen hv
    have e : l.take i = l := List.take_of_length_le (by omega)
    rw [e] at hv
    refine ⟨out, Ev.step (f := fun _ => some (out, true)) (fun k => by rw [round_Unpack.l0, if_neg (by omega)]) (Ev.now _), hout, ?_, held, hv⟩
    have : l.length * 8 = out.length * b + n := by rw [Nat.mul_comm out.length]; omega
    rw [this, Nat.add_comm, Nat.add_mul_div_right _ _ (by omega), Nat.div_eq_of_lt hn, Nat.zero_add]
  | succ d ih =>
    intro i out held n hi h0 h1 hn hout hlen hv
    have hlt : i < l.length := by omega
    have ho : out.length ≤ b * out.length := Nat.le_mul_of_pos_left _ (by omega)
    have q1 : n + 8 < b * 8 + b := by omega
    have q2 : n + 8 ≤ 60 := by omega
    have q3 : out.length + 8 < 17592186044416 := by omega
    have q4 : (n : Int) ≤ 30 := by omega
    clear ho
    have q5 : i + 1 + d = l.length := by omega
    have q6 : b * out.length + (n + 8) = 8 * (i + 1) := by omega
    have q7 : (i : Int) < (l.length : Int) := by omega
    have q8 : (0 : Int) ≤ (i : Int) := by omega
    have q9 : (0 : Int) ≤ (n : Int) := by omega
    have htl := len_take hlt
    have hwi := Box.mk (w64_succ hlt (by omega))
    have hw : Box (wrap64 ((n : Int) + 8) = ((n + 8 : Nat) : Int)) := ⟨by rw [w64 (by omega) (by omega)]; omega⟩
    have hr : rd l (i : Int) = l.getD i 0 := rd_nat l i
    have hx01 := inR_at hin (by decide) i
    generalize hx : l.getD i 0 = x at *
    have hpn := pow_pos' n
    have hp24 : (2 : Int) ^ n ≤ 2 ^ 24 := pow_le (by decide) (by omega)
    have hp32 : (2 : Int) ^ (n + 8) = 2 ^ n * 256 := Int.pow_add ..
    have hmul : x * 2 ^ n ≤ 255 * 2 ^ n := Int.mul_le_mul_of_nonneg_right (by omega) (by omega)
    have hmul0 : 0 ≤ x * 2 ^ n := Int.mul_nonneg (by omega) (by omega)
    have hs2 : Box (shl .i64 (wrap64 x) (n : Int) = x * 2 ^ n) := ⟨by rw [w64 (by omega) (by omega)]; exact shl64 (by omega) (by omega) (by omega)⟩
    have hor : Go.bits .or .i64 held (x * 2 ^ n) = held + x * 2 ^ n := or64 n h0 h1 hmul0 (Int.mul_emod_left _ _) (by omega) (by omega)
    obtain ⟨out', held', n', a0, a1, a2, a3, a4, a5, a6⟩ := unpack_l1 hb hb' (m := (l.length : Int)) (l := l) (i := (i : Int)) 8 out (held + x * 2 ^ n) (n + 8) (by omega) (by omega) q1 q2 hout q3
    have hpow : ((2 : Int) ^ b) ^ out.length * 2 ^ n = 256 ^ i := by rw [p256, ← Int.pow_mul, ← Int.pow_add, hlen]
    obtain ⟨r, hr1, hr2⟩ := ih (i + 1) out' held' n' q5 a0 a1 a2 a3 (a4.trans q6) (by rw [a5, take_snoc hlt, hx, val_snoc, htl, ← hv, ← hpow]; grind)
    refine ⟨r, ?_, hr2⟩
    refine Ev.step (fun k => by rw [round_Unpack.l0, if_pos q7, if_pos q8, if_pos q7, if_pos q9, hr, hs2.out, hor, hw.out]) ?_
    refine a6 _ ?_
    rw [hwi.out]
    exact hr1

/-- What the program reads: each number is the document's. -/
theorem unpack_ev {b : Nat} (hb : 1 ≤ b) (hb' : b ≤ 24) {l : List Int} (hl : l.length ≤ 100000) (hin : inR 256 l) :
    ∃ r, Ev (fun k => round_Unpack.f k l (b : Int)) (r, true) ∧ r.length = l.length * 8 / b ∧ ∀ i, i < r.length → r.getD i 0 = val 256 l / 2 ^ (b * i) % 2 ^ b := by
  obtain ⟨r, h1, h2, h3, X, h4⟩ := unpack_l0 hb hb' hl hin l.length 0 [] 0 0 (by omega) (by decide) (by decide) (by omega) inR_nil (by simp) (by simp [val])
  refine ⟨r, ?_, h3, fun i hi => ?_⟩
  · unfold round_Unpack.f
    refine Ev.neg (by omega) ?_
    rw [decide_eq_false (by omega)]
    exact Ev.step (fun k => by rw [round_Unpack.j0, if_neg (by decide)]; rfl) h1
  · rw [← h4, Int.pow_mul, val_digit_app (pow_pos' b) X h2 i hi]
theorem unpack_no {b : Int} (hb : ¬ (1 ≤ b ∧ b ≤ 24)) {l : List Int} : Ev (fun k => round_Unpack.f k l b) (([] : List Int), false) := by
  have h : Ev (fun k => round_Unpack.j0 k l b true) (([] : List Int), false) := Ev.step (f := fun _ => some (([] : List Int), false)) (fun k => by rw [round_Unpack.j0, if_pos rfl]) (Ev.now _)
  unfold round_Unpack.f
  by_cases c : b < 1
  · exact Ev.pos c h
  · refine Ev.neg c ?_
    rw [decide_eq_true (by omega)]
    exact h
theorem same01_l0 {a b : List Int} (hl : a.length = b.length) (hlen : a.length ≤ 9000000000000000000) : ∀ (d i : Nat), i + d = a.length → (∀ j, j < i → a.getD j 0 = b.getD j 0) → Ev (fun k => chanceryref01_Same.l0 k a b (i : Int)) (decide (a = b)) := by
  intro d
  induction d with
  | zero =>
    intro i hi hj
    have e : a = b := list_ext hl (fun j h => hj j (by omega))
    rw [decide_eq_true e]
    exact Ev.step (f := fun _ => some true) (fun k => by rw [chanceryref01_Same.l0, if_neg (by omega)]) (Ev.now _)
  | succ d ih =>
    intro i hi hj
    by_cases c : a.getD i 0 = b.getD i 0
    · refine Ev.step (fun k => by rw [chanceryref01_Same.l0, if_pos (by omega), if_pos (by omega), if_pos (by omega), rd_nat, rd_nat, if_pos c, show wrap64 ((i : Int) + 1) = ((i + 1 : Nat) : Int) by rw [w64 (by omega) (by omega)]; omega]) (ih (i + 1) (by omega) ?_)
      intro j h
      by_cases e : j = i
      · exact e ▸ c
      · exact hj j (by omega)
    · rw [decide_eq_false (fun e => c (by rw [e]))]
      exact Ev.step (f := fun _ => some false) (fun k => by rw [chanceryref01_Same.l0, if_pos (by omega), if_pos (by omega), if_pos (by omega), rd_nat, rd_nat, if_neg c]) (Ev.now _)
/-- Whether two lists are one. -/
theorem same01_ev {a b : List Int} (hlen : a.length ≤ 9000000000000000000) : Ev (fun k => chanceryref01_Same.f k a b) (decide (a = b)) := by
  unfold chanceryref01_Same.f
  by_cases c : a.length = b.length
  · exact Ev.pos (by omega) (same01_l0 c hlen a.length 0 (by omega) (fun j h => by omega))
  · rw [decide_eq_false (fun e => c (by rw [e]))]
    exact Ev.neg (by omega) (Ev.now _)
theorem same03_l0 {a b : List Int} (hl : a.length = b.length) (hlen : a.length ≤ 9000000000000000000) : ∀ (d i : Nat), i + d = a.length → (∀ j, j < i → a.getD j 0 = b.getD j 0) → Ev (fun k => chanceryref03_Same.l0 k a b (i : Int)) (decide (a = b)) := by
  intro d
  induction d with
  | zero =>
    intro i hi hj
    have e : a = b := list_ext hl (fun j h => hj j (by omega))
    rw [decide_eq_true e]
    exact Ev.step (f := fun _ => some true) (fun k => by rw [chanceryref03_Same.l0, if_neg (by omega)]) (Ev.now _)
  | succ d ih =>
    intro i hi hj
    by_cases c : a.getD i 0 = b.getD i 0
    · refine Ev.step (fun k => by rw [chanceryref03_Same.l0, if_pos (by omega), if_pos (by omega), if_pos (by omega), rd_nat, rd_nat, if_pos c, show wrap64 ((i : Int) + 1) = ((i + 1 : Nat) : Int) by rw [w64 (by omega) (by omega)]; omega]) (ih (i + 1) (by omega) ?_)
      intro j h
      by_cases e : j = i
      · exact e ▸ c
      · exact hj j (by omega)
    · rw [decide_eq_false (fun e => c (by rw [e]))]
      exact Ev.step (f := fun _ => some false) (fun k => by rw [chanceryref03_Same.l0, if_pos (by omega), if_pos (by omega), if_pos (by omega), rd_nat, rd_nat, if_neg c]) (Ev.now _)
/-- Whether two lists are one. -/
theorem same03_ev {a b : List Int} (hlen : a.length ≤ 9000000000000000000) : Ev (fun k => chanceryref03_Same.f k a b) (decide (a = b)) := by
  unfold chanceryref03_Same.f
  by_cases c : a.length = b.length
  · exact Ev.pos (by omega) (same03_l0 c hlen a.length 0 (by omega) (fun j h => by omega))
  · rw [decide_eq_false (fun e => c (by rw [e]))]
    exact Ev.neg (by omega) (Ev.now _)

/-- Either both refuse, or both pack the same bytes, of which the list is read back, noughts behind it. -/
theorem both (l : List Int) (bits : Int) (hl : l.length ≤ 500) :
    (Ev (fun k => round_Pack.f k l bits) (([] : List Int), false) ∧ Ev (fun k => chanceryref04_Pack.f k l bits) (([] : List Int), false)) ∨
    ∃ b back, Ev (fun k => round_Pack.f k l bits) (b, true) ∧ Ev (fun k => chanceryref04_Pack.f k l bits) (b, true) ∧ Ev (fun k => round_Unpack.f k b bits) (back, true) ∧
      b.length ≤ 1500 ∧ back.length ≤ 12000 ∧ l.length ≤ back.length ∧ back.take l.length = l ∧ ∀ x ∈ back.drop l.length, x = 0 := by
  by_cases hb : 1 ≤ bits ∧ bits ≤ 24
  case neg => exact .inl ⟨pack_no hb, refpack_no hb⟩
  obtain ⟨n, rfl⟩ := Int.eq_ofNat_of_zero_le (a := bits) (by omega)
  have hn0 : 1 ≤ n := by omega
  have hn1 : n ≤ 24 := by omega
  obtain ⟨x, x1, x2⟩ := pack_ev hn0 hn1 (l := l) (by omega)
  obtain ⟨y, y1, y2⟩ := refpack_ev hn0 hn1 (l := l) (by omega)
  rcases x2 with ⟨h, a1, a2, a3, a4⟩ | ⟨h, rfl⟩
  · rcases y2 with ⟨_, b1, b2, b3, b4⟩ | ⟨h', _⟩
    · obtain ⟨x, xb⟩ := x
      obtain ⟨y, yb⟩ := y
      simp only [] at a1 a2 a3 a4 b1 b2 b3 b4
      subst a1 b1
      obtain rfl : x = y := val_inj (by decide) a2 b2 (by omega) (by omega)
      have hlb : l.length * n ≤ 500 * 24 := Nat.mul_le_mul hl hn1
      obtain ⟨back, u1, u2, u3⟩ := unpack_ev hn0 hn1 (l := x) (by omega) a2
      have hd1 : l.length ≤ x.length * 8 / n := by
        rw [Nat.le_div_iff_mul_le (by omega)]
        omega
      have hd2 : x.length * 8 / n ≤ x.length * 8 := Nat.div_le_self _ _
      have hdig : ∀ i, i < back.length → back.getD i 0 = l.getD i 0 := fun i hi => by
        rw [u3 i hi, a4, Int.pow_mul]
        exact val_digit (pow_pos' n) h i
      refine .inr ⟨x, back, x1, y1, u1, by omega, by omega, by omega, ?_, ?_⟩
      · refine list_ext (by rw [List.length_take]; omega) (fun i hi => ?_)
        rw [List.length_take] at hi
        rw [← hdig i (by omega), List.getD_eq_getElem?_getD, List.getElem?_take_of_lt (by omega), ← List.getD_eq_getElem?_getD]
      · intro v hv
        obtain ⟨i, hi, rfl⟩ := List.mem_iff_getElem.1 hv
        rw [List.length_drop] at hi
        have := hdig (l.length + i) (by omega)
        rw [List.getD_eq_getElem?_getD, List.getElem?_eq_getElem (by omega), List.getD_eq_getElem?_getD, List.getElem?_eq_none (by omega)] at this
        simpa using this
    · exact absurd h h'
  · rcases y2 with ⟨h', _⟩ | ⟨_, rfl⟩
    · exact absurd h' h
    · exact .inl ⟨x1, y1⟩

end Go.Proofs.Ytbkbdnlolfaneaa.RoundPacksOwn
