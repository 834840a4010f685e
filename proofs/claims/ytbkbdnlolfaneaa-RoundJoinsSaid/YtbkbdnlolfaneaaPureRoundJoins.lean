/- Two lists of numbers, the first of whole bytes' length, are packed one behind the other as the two together: for every two lists of at most 400 numbers and every width from 1 to 24. -/
import Derived.Test.YtbkbdnlolfaneaaPRoundJoinsx2
import Derived.Test.YtbkbdnlolfaneaaMVal
namespace Go.Proofs.Ytbkbdnlolfaneaa.Pure
open Go.RowKit Go.Proofs.Ytbkbdnlolfaneaa.PRoundJoins Go.Proofs.YtbkbdnlolfaneaaW.PrintWords Go.Proofs.YtbkbdnlolfaneaaW.PrintLast Go.Proofs.YtbkbdnlolfaneaaW.PrintMore
open Go.Proofs.Ytbkbdnlolfaneaa.MBase Go.Proofs.Ytbkbdnlolfaneaa.MVal
namespace RoundJoinsAid

theorem anchor_at : chancerylaw04_anchor.f 40 = some true := by decide +kernel
theorem anchor_ev : Ev (fun k => chancerylaw04_anchor.f k) true := Ev.of chancerylaw04_anchor.mono anchor_at
/-- The loop that lets whole bytes out. -/
theorem pack_l1 {b m : Int} {l : List Int} {i : Int} : ∀ (d : Nat) (out : List Int) (held : Int) (n : Nat), 0 ≤ held → held < 2 ^ n → n < 8 * d + 8 → n ≤ 60 → inR 256 out → out.length + d < 140737488355328 →
    ∃ (out' : List Int) (held' : Int) (n' : Nat), 0 ≤ held' ∧ held' < 2 ^ n' ∧ n' < 8 ∧ inR 256 out' ∧ 8 * out'.length + n' = 8 * out.length + n ∧ val 256 out' + 256 ^ out'.length * held' = val 256 out + 256 ^ out.length * held ∧
      ∀ r, Ev (fun k => round_Pack.l0 k b out' held' (n' : Int) l m (wrap64 (i + 1))) r → Ev (fun k => round_Pack.l1 k b out held (n : Int) l m i) r := by
  intro d
  induction d with
  | zero =>
    intro out held n h0 h1 hd hn hout hlen
    exact ⟨out, held, n, h0, h1, by omega, hout, rfl, rfl, fun r h => Ev.step (fun k => by rw [round_Pack.l1, if_neg (by omega)]) h⟩
  | succ d ih =>
    intro out held n h0 h1 hd hn hout hlen
    by_cases c : n ≥ 8
    · have hp : (2 : Int) ^ n = 256 * 2 ^ (n - 8) := pow_split c
      have hm : 0 ≤ held % 256 ∧ held % 256 < 256 := by omega
      obtain ⟨out', held', n', a0, a1, a2, a3, a4, a5, a6⟩ := ih (out ++ [held % 256]) (held / 256) (n - 8) (by omega) (by omega) (by omega) (by omega) (inR_app.2 ⟨hout, inR_one.2 hm⟩) (by simp; omega)
      refine ⟨out', held', n', a0, a1, a2, a3, by simp at a4; omega, ?_, fun r h => Ev.step (fun k => by rw [round_Pack.l1, if_pos (by omega), if_pos (by omega)]) ?_⟩
      · rw [a5, val_snoc, List.length_append, List.length_singleton, Int.pow_succ]
        have : held = held % 256 + 256 * (held / 256) := by omega
        generalize held % 256 = x at *
        generalize held / 256 = y at *
        subst this
        grind
      · have e : wrap64 ((n : Int) - 8) = ((n - 8 : Nat) : Int) := by rw [w64 (by omega) (by omega)]; omega
        rw [e]
        exact a6 r h
    · exact ⟨out, held, n, h0, h1, by omega, hout, rfl, rfl, fun r h => Ev.step (fun k => by rw [round_Pack.l1, if_neg (by omega)]) h⟩

theorem pack_l0 {b : Nat} (hb : 1 ≤ b) (hb' : b ≤ 24) {l : List Int} (hl : l.length ≤ 100000) : ∀ (d i : Nat) (out : List Int) (held : Int) (n : Nat), i + d = l.length → 0 ≤ held → held < 2 ^ n → n < 8 → inR 256 out → 8 * out.length + n = i * b →
    val 256 out + 256 ^ out.length * held = val (2 ^ b) (l.take i) → inR (2 ^ b) (l.take i) →
    ∃ r, Ev (fun k => round_Pack.l0 k (b : Int) out held (n : Int) l (l.length : Int) (i : Int)) r ∧
      ((inR (2 ^ b) (l.drop i) ∧ r.2 = true ∧ inR 256 r.1 ∧ r.1.length = (l.length * b + 7) / 8 ∧ val 256 r.1 = val (2 ^ b) l) ∨ (¬ inR (2 ^ b) (l.drop i) ∧ r = ([], false))) := by
  intro d
  induction d with
  | zero =>
    intro i out held n hi h0 h1 hn hout hlen hv hin
    have e : l.take i = l := List.take_of_length_le (by omega)
    have e' : l.drop i = [] := List.drop_of_length_le (by omega)
    have hlb : l.length * b ≤ 100000 * 24 := Nat.mul_le_mul hl hb'
    have hi' : i = l.length := by omega
    subst hi'
    rw [e] at hv
    rw [e']
    by_cases c : n > 0
    · have hp : (2 : Int) ^ n ≤ 2 ^ 8 := pow_le (by decide) (by omega)
      have hh : held % 256 = held := Int.emod_eq_of_lt h0 (by omega)
      refine ⟨(out ++ [held % 256], true), Ev.step (f := fun _ => some (out ++ [held % 256], true)) (fun k => by rw [round_Pack.l0, if_neg (by omega), if_pos (by omega), if_pos (by omega)]) (Ev.now _), .inl ⟨inR_nil, rfl, inR_app.2 ⟨hout, inR_one.2 (by omega)⟩, ?_, ?_⟩⟩
      · simp only [List.length_append, List.length_singleton]; omega
      · rw [val_snoc, hh, hv]
    · have hn0 : n = 0 := by omega
      subst hn0
      have hh : held = 0 := by simp at h1; omega
      subst hh
      refine ⟨(out, true), Ev.step (f := fun _ => some (out, true)) (fun k => by rw [round_Pack.l0, if_neg (by omega), if_neg (by omega)]) (Ev.now _), .inl ⟨inR_nil, rfl, hout, ?_, ?_⟩⟩
      · show out.length = _; omega
      · rw [← hv]; simp
  | succ d ih =>
    intro i out held n hi h0 h1 hn hout hlen hv hin
    have hlt : i < l.length := by omega
    have hw : Box (wrap64 ((n : Int) + (b : Int)) = ((n + b : Nat) : Int)) := ⟨by rw [w64 (by omega) (by omega)]; omega⟩
    have hwi := Box.mk (w64_succ hlt (by omega))
    have htl := len_take hlt
    have q1 : i + 1 + d = l.length := by omega
    have q2 : n + b < 8 * 3 + 8 := by omega
    have q3 : n + b ≤ 60 := by omega
    have hpb := pow_pos' b
    have hp24 : (2 : Int) ^ b ≤ 2 ^ 24 := pow_le (by decide) hb'
    have hp8 : (2 : Int) ^ n ≤ 2 ^ 8 := pow_le (by decide) (by omega)
    have hdrop := drop_cons hlt
    have hlb : i * b ≤ 100000 * 24 := Nat.mul_le_mul (by omega) hb'
    have hr : rd l (i : Int) = l.getD i 0 := rd_nat l i
    have hs1 : Box (shl .i64 1 (b : Int) = 2 ^ b) := ⟨by rw [shl64 (by decide) (by omega) (by omega), Int.one_mul]⟩
    generalize hx : l.getD i 0 = x at *
    have no : ∀ h : ¬ (0 ≤ x ∧ x < 2 ^ b), ¬ inR (2 ^ b) (l.drop i) := fun h h' => h (inR_cons.1 (hdrop ▸ h')).1
    have out_ev : ∀ (c d e f g h q t), Ev (fun k => round_Pack.j2 k c d e f g h q t true) (([] : List Int), false) := fun c d e f g h q t =>
      Ev.step (f := fun _ => some (([] : List Int), false)) (fun k => by rw [round_Pack.j2, if_pos rfl]) (Ev.now _)
    by_cases c0 : x < 0
    · refine ⟨_, Ev.step (fun k => by rw [round_Pack.l0, if_pos (by omega), if_pos (by omega), if_pos (by omega), hr, if_pos c0]) (out_ev ..), .inr ⟨no (by omega), rfl⟩⟩
    by_cases c1 : x ≥ 2 ^ b
    · refine ⟨_, Ev.step (fun k => by rw [round_Pack.l0, if_pos (by omega), if_pos (by omega), if_pos (by omega), hr, if_neg c0, if_pos (by omega), hs1.out, decide_eq_true c1]) (out_ev ..), .inr ⟨no (by omega), rfl⟩⟩
    have hp31 : (2 : Int) ^ (n + b) = 2 ^ n * 2 ^ b := Int.pow_add ..
    have hpn := pow_pos' n
    have hmul : x * 2 ^ n ≤ (2 ^ b - 1) * 2 ^ n := Int.mul_le_mul_of_nonneg_right (by omega) (by omega)
    have hmul0 : 0 ≤ x * 2 ^ n := Int.mul_nonneg (by omega) (by omega)
    have hmul1 : (2 ^ b - 1) * 2 ^ n = 2 ^ (n + b) - (2 : Int) ^ n := by rw [hp31, Int.sub_mul, Int.one_mul, Int.mul_comm]
    have hp32 : (2 : Int) ^ (n + b) ≤ 2 ^ 32 := pow_le (by decide) (by omega)
    have hs2 := Box.mk (shl64 (x := x) (n := n) (by omega) (by omega) (by omega))
    have hor : Go.bits .or .i64 held (x * 2 ^ n) = held + x * 2 ^ n := or64 n h0 h1 hmul0 (Int.mul_emod_left _ _) (by omega) (by omega)
    obtain ⟨out', held', n', a0, a1, a2, a3, a4, a5, a6⟩ := pack_l1 (b := (b : Int)) (m := (l.length : Int)) (l := l) (i := (i : Int)) 3 out (held + x * 2 ^ n) (n + b) (by omega) (by omega) q2 q3 hout (by omega)
    have hpow : (256 : Int) ^ out.length * 2 ^ n = (2 ^ b) ^ i := by
      rw [p256, ← Int.pow_add, hlen, Nat.mul_comm, Int.pow_mul]
    obtain ⟨r, hr1, hr2⟩ := ih (i + 1) out' held' n' q1 a0 a1 a2 a3 (by rw [a4, Nat.add_mul]; omega)
      (by rw [a5, take_snoc hlt, hx, val_snoc, htl, ← hv, ← hpow]; grind) (by rw [take_snoc hlt, hx]; exact inR_app.2 ⟨hin, inR_one.2 (by omega)⟩)
    refine ⟨r, ?_, ?_⟩
    · refine Ev.step (fun k => by rw [round_Pack.l0, if_pos (by omega), if_pos (by omega), if_pos (by omega), hr, if_neg c0, if_pos (by omega), hs1.out, decide_eq_false c1]) ?_
      refine Ev.step (fun k => by rw [round_Pack.j2, if_neg (by decide), if_pos (by omega), hs2.out, hor, hw.out]) ?_
      refine a6 r ?_
      rw [hwi.out]
      exact hr1
    · rcases hr2 with ⟨q1, q2⟩ | ⟨q1, q2⟩
      · exact .inl ⟨by rw [hdrop]; exact inR_cons.2 ⟨by omega, q1⟩, q2⟩
      · exact .inr ⟨fun h => q1 (inR_cons.1 (hdrop ▸ h)).2, q2⟩

/-- What the program packs. -/
theorem pack_ev {b : Nat} (hb : 1 ≤ b) (hb' : b ≤ 24) {l : List Int} (hl : l.length ≤ 100000) :
    ∃ r, Ev (fun k => round_Pack.f k l (b : Int)) r ∧ ((inR (2 ^ b) l ∧ r.2 = true ∧ inR 256 r.1 ∧ r.1.length = (l.length * b + 7) / 8 ∧ val 256 r.1 = val (2 ^ b) l) ∨ (¬ inR (2 ^ b) l ∧ r = ([], false))) := by
  obtain ⟨r, h1, h2⟩ := pack_l0 hb hb' hl l.length 0 [] 0 0 (by omega) (by decide) (by decide) (by decide) inR_nil (by simp) (by simp [val]) (by simpa using inR_nil)
  refine ⟨r, ?_, by simpa using h2⟩
  unfold round_Pack.f
  refine Ev.neg (by omega) ?_
  rw [decide_eq_false (by omega)]
  exact Ev.step (fun k => by rw [round_Pack.j0, if_neg (by decide)]; rfl) h1
theorem pack_no {b : Int} (hb : ¬ (1 ≤ b ∧ b ≤ 24)) {l : List Int} : Ev (fun k => round_Pack.f k l b) (([] : List Int), false) := by
  have h : Ev (fun k => round_Pack.j0 k l b true) (([] : List Int), false) := Ev.step (f := fun _ => some (([] : List Int), false)) (fun k => by rw [round_Pack.j0, if_pos rfl]) (Ev.now _)
  unfold round_Pack.f
  by_cases c : b < 1
  · exact Ev.pos c h
  · refine Ev.neg c ?_
    rw [decide_eq_true (by omega)]
    exact h
theorem same_l0 {a b : List Int} (hl : a.length = b.length) (hlen : a.length ≤ 9000000000000000000) : ∀ (d i : Nat), i + d = a.length → (∀ j, j < i → a.getD j 0 = b.getD j 0) → Ev (fun k => chanceryref01_Same.l0 k a b (i : Int)) (decide (a = b)) := by
  intro d
  induction d with
  | zero =>
    intro i hi hj
    have e : a = b := list_ext hl (fun j h => hj j (by omega))
    rw [decide_eq_true e]
    exact Ev.step (f := fun _ => some true) (fun k => by rw [chanceryref01_Same.l0, if_neg (by omega)]) (Ev.now _)
  | succ d ih =>
    intro i hi hj
    by_cases c : a.getD i 0 = b.getD i 0
    · refine Ev.step (fun k => by rw [chanceryref01_Same.l0, if_pos (by omega), if_pos (by omega), if_pos (by omega), rd_nat, rd_nat, if_pos c, show wrap64 ((i : Int) + 1) = ((i + 1 : Nat) : Int) by rw [w64 (by omega) (by omega)]; omega]) (ih (i + 1) (by omega) ?_)
      intro j h
      by_cases e : j = i
      · exact e ▸ c
      · exact hj j (by omega)
    · rw [decide_eq_false (fun e => c (by rw [e]))]
      exact Ev.step (f := fun _ => some false) (fun k => by rw [chanceryref01_Same.l0, if_pos (by omega), if_pos (by omega), if_pos (by omega), rd_nat, rd_nat, if_neg c]) (Ev.now _)
/-- Whether two lists are one. -/
theorem same_ev {a b : List Int} (hlen : a.length ≤ 9000000000000000000) : Ev (fun k => chanceryref01_Same.f k a b) (decide (a = b)) := by
  unfold chanceryref01_Same.f
  by_cases c : a.length = b.length
  · exact Ev.pos (by omega) (same_l0 c hlen a.length 0 (by omega) (fun j h => by omega))
  · rw [decide_eq_false (fun e => c (by rw [e]))]
    exact Ev.neg (by omega) (Ev.now _)

theorem join_eq {a b : List Int} (h : a.length + b.length < 140737488355328) : chanceryref01_Join.f a b = some ([] ++ a ++ b) := by
  unfold chanceryref01_Join.f
  rw [Option.bind_some, if_pos (by simp; omega), Option.bind_some, if_pos (by simp; omega)]

end RoundJoinsAid
open RoundJoinsAid

theorem RoundJoins : chancerylaw04_RoundJoins.Pure := by
  intro a b bits _ _ _ _ _ _ hw
  have hw := wf64 hw
  refine Ev.rounds ?_
  unfold chancerylaw04_RoundJoins.f
  refine Ev.bind anchor_ev (Ev.pos rfl ?_)
  have out : Ev (fun k => chancerylaw04_RoundJoins.j0 k a b bits true) true := Ev.step (f := fun _ => some true) (fun k => by rw [chancerylaw04_RoundJoins.j0, if_pos rfl]) (Ev.now _)
  by_cases c0 : (a.length : Int) > 400
  · exact Ev.pos c0 out
  refine Ev.neg c0 ?_
  by_cases c1 : (b.length : Int) > 400
  · exact Ev.pos c1 out
  refine Ev.neg c1 ?_
  by_cases c2 : bits < 1
  · exact Ev.pos c2 out
  refine Ev.neg c2 ?_
  by_cases c3 : bits > 24
  · exact Ev.pos c3 out
  refine Ev.neg c3 ?_
  obtain ⟨n, rfl⟩ := Int.eq_ofNat_of_zero_le (a := bits) (by omega)
  have hlb : a.length * n ≤ 400 * 24 := Nat.mul_le_mul (by omega) (by omega)
  have hlb' : ((a.length : Int) * (n : Int)) = ((a.length * n : Nat) : Int) := by simp
  rw [hlb', w64 (by omega) (by omega), tm (by omega)]
  by_cases c4 : a.length * n % 8 = 0
  case neg =>
    have e : ((((a.length * n : Nat) : Int) % 8) != 0) = true := bne_iff_ne.mpr (by omega)
    rw [e]
    exact out
  have e : ((((a.length * n : Nat) : Int) % 8) != 0) = false := by
    rw [bne_eq_false_iff_eq]
    omega
  rw [e]
  obtain ⟨x, hx, hx'⟩ := pack_ev (b := n) (by omega) (by omega) (l := a) (by omega)
  obtain ⟨y, hy, hy'⟩ := pack_ev (b := n) (by omega) (by omega) (l := b) (by omega)
  obtain ⟨z, hz, hz'⟩ := pack_ev (b := n) (by omega) (by omega) (l := [] ++ a ++ b) (by simp; omega)
  refine Ev.step (fun k => by rw [chancerylaw04_RoundJoins.j0, if_neg (by decide)]) ?_
  refine Ev.bind hx (Ev.bind hy (Ev.bindc rfl (Ev.pos (by simp; omega) (Ev.bindc rfl (Ev.pos (by simp; omega) (Ev.bind hz ?_))))))
  rw [List.nil_append] at hz'
  have bad : ∀ p q r, Ev (fun k => chancerylaw04_RoundJoins.j1 k p q r false false) true := fun p q r => Ev.step (f := fun _ => some true) (fun k => by rw [chancerylaw04_RoundJoins.j1, if_neg (by decide), if_neg (by decide)]) (Ev.now _)
  rcases hx' with ⟨x0, x1, x2, x3, x4⟩ | ⟨x0, rfl⟩
  · refine Ev.pos x1 ?_
    rcases hy' with ⟨y0, y1, y2, y3, y4⟩ | ⟨y0, rfl⟩
    · rcases hz' with ⟨_, z1, z2, z3, z4⟩ | ⟨z0, rfl⟩
      · rw [y1, z1]
        have hlb2 : (a.length + b.length) * n = a.length * n + b.length * n := Nat.add_mul ..
        have hlen : z.1.length = ([] ++ x.1 ++ y.1).length := by
          rw [List.nil_append, List.length_append, x3, y3, z3, List.length_append, hlb2]
          omega
        have hval : val 256 z.1 = val 256 ([] ++ x.1 ++ y.1) := by
          have hp : (256 : Int) ^ x.1.length = (2 ^ n) ^ a.length := by
            rw [p256, ← Int.pow_mul, x3]
            congr 1
            rw [Nat.mul_comm n]
            omega
          rw [List.nil_append, val_append, z4, val_append, x4, y4, hp]
        have hzz : z.1 = [] ++ x.1 ++ y.1 := val_inj (by decide) z2 (by rw [List.nil_append]; exact inR_app.2 ⟨x2, y2⟩) hlen hval
        have hb1 : x.1.length ≤ 100000 := by omega
        have hlb3 : b.length * n ≤ 400 * 24 := Nat.mul_le_mul (by omega) (by omega)
        refine Ev.step (fun k => by rw [chancerylaw04_RoundJoins.j1, if_neg (by decide), if_pos rfl, join_eq (by omega), Option.bind_some]) ?_
        refine Ev.bind (same_ev (by rw [z3, List.length_append, hlb2]; omega)) ?_
        rw [decide_eq_true hzz]
        exact Ev.now _
      · exact absurd (inR_app.2 ⟨x0, y0⟩) z0
    · rcases hz' with ⟨z0, _⟩ | ⟨z0, rfl⟩
      · exact absurd (inR_app.1 z0).2 y0
      · exact bad ..
  · refine Ev.neg (by decide) ?_
    rcases hz' with ⟨z0, _⟩ | ⟨z0, rfl⟩
    · exact absurd (inR_app.1 z0).1 x0
    · exact bad ..

end Go.Proofs.Ytbkbdnlolfaneaa.Pure
