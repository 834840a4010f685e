/- The walk of the statement on packing: what each call does, by contract of what it calls. -/
import Derived.Test.YtbkbdnlolfaneaaPureRoundPacksOwn
import Derived.Deep.LoopGhost
import Derived.IntWalk
namespace Go.Proofs.Ytbkbdnlolfaneaa.HRoundPacks
open Go.RowKit Go.Proofs.Ytbkbdnlolfaneaa.PRoundPacks Go.Proofs.YtbkbdnlolfaneaaW.PrintWords Go.Proofs.YtbkbdnlolfaneaaW.PrintLast Go.Proofs.YtbkbdnlolfaneaaW.PrintMore
open Go.Proofs.Ytbkbdnlolfaneaa.MBase Go.Proofs.Ytbkbdnlolfaneaa.MVal Go.Proofs.Ytbkbdnlolfaneaa.RoundPacksOwn

theorem anchor_any (w : World) : Calls Try.prog 11 #[] w fun e w' => e = .returned (.bool true) ∧ Below w.heap.size w w' :=
  chancerylaw04_anchor.calls 40 true w anchor_at

theorem trans_below {w w1 w2 : World} (h : Below w.heap.size w w1) (h' : Below w1.heap.size w1 w2) : Below w.heap.size w w2 := h.trans (h'.mono h.size)
theorem below_drawn {w w1 : World} (h : Below w.heap.size w w1) (n : Nat) : Below w.heap.size w (w1.drewN n) := trans_below h (Drawn0.below ⟨n, rfl⟩)

set_option maxHeartbeats 1000000 in
theorem many (A : Option Addr) (c : Nat) (l : List Int) (bits : Int) (w : World) (hl : 500 < l.length) :
    Calls Try.prog 5 #[.slice A l.length c, .int .i64 bits] w fun e w' => e = .returned (.bool true) ∧ Below w.heap.size w w' := by
  have c0 : decide (500 < l.length) = true := decide_eq_true hl
  have c1 : decide ((500 : Int) < (l.length : Int)) = true := decide_eq_true (by omega)
  clear hl
  go_enter Try.func5, Try.ntmps5
  go_wp2_with fail
  refine (anchor_any _).mono ?_
  rintro e w1 ⟨rfl, hb⟩
  go_wp2
  go_ret
  exact ⟨rfl, hb⟩

set_option maxHeartbeats 2000000 in
theorem refused (A : Option Addr) (c : Nat) (l : List Int) (bits : Int) (w : World) (hl : l.length ≤ 500) (hr : Kd.C (Kd.int .i64) w A l.length l) (hc : l.length ≤ c) (k : Nat)
    (h1 : round_Pack.f k l bits = some ([], false)) (h2 : chanceryref04_Pack.f k l bits = some ([], false)) :
    Calls Try.prog 5 #[.slice A l.length c, .int .i64 bits] w fun e w' => e = .returned (.bool true) ∧ Below w.heap.size w w' := by
  have c0 : decide (500 < l.length) = false := decide_eq_false (by omega)
  have c1 : decide ((500 : Int) < (l.length : Int)) = false := decide_eq_false (by omega)
  have HR := Box.mk hr
  have HC := Box.mk hc
  have H1 := Box.mk h1
  have H2 := Box.mk h2
  clear hl hr hc h1 h2
  go_enter Try.func5, Try.ntmps5
  go_wp2_with fail
  refine (anchor_any _).mono ?_
  rintro e w1 ⟨rfl, hb⟩
  have HB := Box.mk hb
  clear hb
  go_wp2_with fail
  refine (round_Pack.calls k _ _ l bits [] false _ (Kd.C_below HR.out HB.out) HC.out H1.out).mono ?_
  rintro e w2 ⟨v2, rfl, ho2, hb2⟩
  have HB2 := Box.mk (trans_below HB.out hb2)
  have HO2 := Box.mk ho2
  clear hb2 ho2
  go_wp2_with fail
  refine (chanceryref04_Pack.calls k _ _ l bits [] false _ (Kd.C_below HR.out HB2.out) HC.out H2.out).mono ?_
  rintro e w3 ⟨v3, rfl, ho3, hb3⟩
  have HB3 := Box.mk (trans_below HB2.out hb3)
  have HO23 := Box.mk (Kd.R_below HO2.out hb3)
  have HO3 := Box.mk ho3
  clear HO2 hb3 ho3
  obtain ⟨A2, c2, rfl⟩ := Kd.R_slice HO23.out
  obtain ⟨A3, c3, rfl⟩ := Kd.R_slice HO3.out
  go_wp2_with fail
  refine (chanceryref01_Same.calls 5 _ _ [] _ _ [] true _ (Kd.R_reads' HO23.out).2.2 (Kd.R_reads' HO23.out).2.1 (Kd.R_reads' HO3.out).2.2 (Kd.R_reads' HO3.out).2.1 (by decide +kernel)).mono ?_
  rintro e w' ⟨rfl, ⟨n1, rfl⟩⟩
  go_wp2
  go_ret
  exact ⟨rfl, below_drawn HB3.out n1⟩

set_option maxHeartbeats 2000000 in
theorem packed (A : Option Addr) (c : Nat) (l : List Int) (bits : Int) (w : World) (hl : l.length ≤ 500) (hr : Kd.C (Kd.int .i64) w A l.length l) (hc : l.length ≤ c) (k : Nat) (b back : List Int)
    (h1 : round_Pack.f k l bits = some (b, true)) (h2 : chanceryref04_Pack.f k l bits = some (b, true)) (h3 : round_Unpack.f k b bits = some (back, true))
    (h4 : chanceryref01_Same.f k b b = some true) (h5 : chanceryref03_Same.f k (back.take l.length) l = some true) (hbl : back.length ≤ 12000) (hll : l.length ≤ back.length) (hz : ∀ x ∈ back.drop l.length, x = 0) :
    Calls Try.prog 5 #[.slice A l.length c, .int .i64 bits] w fun e w' => e = .returned (.bool true) ∧ Below w.heap.size w w' := by
  have c0 : decide (500 < l.length) = false := decide_eq_false (by omega)
  have c1 : decide ((500 : Int) < (l.length : Int)) = false := decide_eq_false (by omega)
  have c2 : decide (back.length < l.length) = false := decide_eq_false (by omega)
  have c3 : decide ((back.length : Int) < (l.length : Int)) = false := decide_eq_false (by omega)
  have HR := Box.mk hr
  have HC := Box.mk hc
  have H1 := Box.mk h1
  have H2 := Box.mk h2
  have H3 := Box.mk h3
  have H4 := Box.mk h4
  have H5 := Box.mk h5
  have HZ := Box.mk hz
  clear hl hr hc h1 h2 h3 h4 h5 hz
  go_enter Try.func5, Try.ntmps5
  go_wp2_with fail
  refine (anchor_any _).mono ?_
  rintro e w1 ⟨rfl, hb⟩
  have HB := Box.mk hb
  clear hb
  go_wp2_with fail
  refine (round_Pack.calls k _ _ l bits b true _ (Kd.C_below HR.out HB.out) HC.out H1.out).mono ?_
  rintro e w2 ⟨v2, rfl, ho2, hb2⟩
  have HB2 := Box.mk (trans_below HB.out hb2)
  have HO2 := Box.mk ho2
  clear hb2 ho2
  go_wp2_with fail
  refine (chanceryref04_Pack.calls k _ _ l bits b true _ (Kd.C_below HR.out HB2.out) HC.out H2.out).mono ?_
  rintro e w3 ⟨v3, rfl, ho3, hb3⟩
  have HB3 := Box.mk (trans_below HB2.out hb3)
  have HO23 := Box.mk (Kd.R_below HO2.out hb3)
  have HO3 := Box.mk ho3
  clear HO2 hb3 ho3
  obtain ⟨A2, c2, rfl⟩ := Kd.R_slice HO23.out
  obtain ⟨A3, c3, rfl⟩ := Kd.R_slice HO3.out
  go_wp2_with fail
  refine (chanceryref01_Same.calls k _ _ b _ _ b true _ (Kd.R_reads' HO23.out).2.2 (Kd.R_reads' HO23.out).2.1 (Kd.R_reads' HO3.out).2.2 (Kd.R_reads' HO3.out).2.1 H4.out).mono ?_
  rintro e w' ⟨rfl, ⟨n1, rfl⟩⟩
  have HB4 := Box.mk (below_drawn HB3.out n1)
  have HO24 := Box.mk (Kd.R_drewN HO23.out n1)
  clear HO23 HO3
  go_wp2_with fail
  refine (round_Unpack.calls k _ _ b bits back true _ (Kd.R_reads' HO24.out).2.2 (Kd.R_reads' HO24.out).2.1 H3.out).mono ?_
  rintro e w5 ⟨v5, rfl, ho5, hb5⟩
  have HB5 := Box.mk (trans_below HB4.out hb5)
  have HO5 := Box.mk ho5
  clear hb5 ho5 HO24
  obtain ⟨A5, c5, rfl⟩ := Kd.R_slice HO5.out
  obtain ⟨i0, hi0, _, hsz, _⟩ := info_parts info3
  have hcap := (Kd.R_reads' HO5.out).2.1
  have hcut := cut_to (P := Try.prog) 29 3 .i64 Try.underlying29 hi0 A5 back.length c5 (l.length : Int) (by omega) (by omega) hcap
  have hcut2 := cut_from (P := Try.prog) 29 3 .i64 Try.underlying29 hi0 1 hsz A5 back.length c5 (l.length : Int) (by omega) (by omega)
  rw [Int.toNat_natCast] at hcut hcut2
  have hT := Kd.C_take (m := l.length) (Kd.R_reads' HO5.out).2.2 (by omega)
  have hD := Kd.C_drop (m := l.length) (c := c5) (Kd.R_reads' HO5.out).2.2 (by omega) hcap
  have hTl : (back.take l.length).length = l.length := by rw [List.length_take]; omega
  obtain ⟨AD, hAD⟩ : ∃ AD, AD = (if c5 = l.length then A5 else A5.map (·.add (l.length * 1))) := ⟨_, rfl⟩
  have hD' : Kd.C (Kd.int .i64) w5 AD (back.drop l.length).length (back.drop l.length) := by rw [hAD]; exact hD
  have hDl : (back.drop l.length).length = back.length - l.length := List.length_drop
  rw [← hAD] at hcut2
  have hS := chanceryref03_Same.calls k A5 c5 (back.take l.length) A c l true w5 hT (by rw [hTl]; omega) (Kd.C_below HR.out HB5.out) HC.out H5.out
  rw [hTl] at hS
  have HS := Box.mk hS
  have HD := Box.mk hD'
  have HDL := Box.mk hDl
  clear hT hD hTl hi0 hsz hcap hD' hDl hS hAD
  go_wp2_with fail
  refine HS.out.mono ?_
  rintro e w' ⟨rfl, ⟨n2, rfl⟩⟩
  have HB6 := Box.mk (below_drawn HB5.out n2)
  replace HD := Box.mk (Kd.C_drewN HD.out n2)
  rw [HDL.out] at HD
  generalize hw6 : w5.drewN n2 = w6 at HB6 HD ⊢
  clear hw6 HS HO5
  have hdl : back.length - l.length ≤ 12000 := by omega
  go_wp2
  go_loopw [70] (fun v w' => ∃ i : Nat, i ≤ back.length - l.length ∧ v = .int .i64 i ∧ Drawn0 w6 w') (fun v _ => (back.length - l.length) - (intOf v).toNat)
  case atStart => exact ⟨0, Nat.zero_le _, rfl, Drawn0.refl _⟩
  case round =>
    obtain ⟨i, hi, rfl, ⟨m1, rfl⟩⟩ := hrel
    by_cases hlt : i < back.length - l.length
    · obtain ⟨ad, rfl, hcell⟩ := Kd.at_int (Kd.C_drewN HD.out m1) (i : Int) (by omega) (by omega)
      have hx : rd (back.drop l.length) (i : Int) = 0 := by
        rw [rd_nat, List.getD_eq_getElem?_getD, List.getElem?_eq_getElem (by rw [HDL.out]; exact hlt)]
        exact HZ.out _ (List.getElem_mem _)
      rw [hx, Int.toNat_natCast] at hcell
      have hlt' : (i : Int) < ((back.length - l.length : Nat) : Int) := by omega
      clear hx
      go_wp2
      exact ⟨⟨i + 1, by omega, by go_num, ⟨m1, rfl⟩⟩, by simp [intOf]; omega⟩
    · go_wp2
      go_ret
      exact ⟨rfl, below_drawn HB6.out m1⟩

theorem walk (a0 : Option Addr) (len0 cap0 : Nat) (z0 : List Int) (a1 : Int) (w : World) (w0 : (a0 = none ∧ len0 = 0 ∧ cap0 = 0 ∧ z0 = []) ∨ ∃ x, a0 = some x ∧ len0 ≤ cap0 ∧ cap0 ≤ maxLen ∧ z0.length = cap0 ∧ (∀ i, i < z0.length → w.cell? (x.add i) = some (.int .i64 (z0.getD i 0))) ∧ ∀ n ∈ z0, (Lit.int .i64 n).wf = true) :
    Calls Try.prog 5 #[.slice a0 len0 cap0, .int .i64 a1] w fun e w' => e = .returned (.bool true) ∧ Below w.heap.size w w' := by
  obtain ⟨l, rfl, hr, _, _, hc⟩ := ReadsInt.ofRowC w0
  have hC := Kd.C_of_reads (d := (0 : Int)) (h1 := fun _ => rfl) hr
  by_cases hl : l.length ≤ 500
  case neg => exact many a0 cap0 l a1 w (by omega)
  rcases both l a1 hl with ⟨h1, h2⟩ | ⟨b, back, h1, h2, h3, hb, hbk, hlb, ht, hz⟩
  · obtain ⟨k, e1, e2⟩ := together (round_Pack.mono _ _) (chanceryref04_Pack.mono _ _) h1.rounds h2.rounds
    exact refused a0 cap0 l a1 w hl hC hc k e1 e2
  · have h4 : Ev (fun k => chanceryref01_Same.f k b b) true := by
      have := same01_ev (a := b) (b := b) (by omega)
      rwa [decide_eq_true rfl] at this
    have h5 : Ev (fun k => chanceryref03_Same.f k (back.take l.length) l) true := by
      have := same03_ev (a := back.take l.length) (b := l) (by rw [List.length_take]; omega)
      rwa [decide_eq_true ht] at this
    obtain ⟨k1, e1⟩ := h1
    obtain ⟨k2, e2⟩ := h2
    obtain ⟨k3, e3⟩ := h3
    obtain ⟨k4, e4⟩ := h4
    obtain ⟨k5, e5⟩ := h5
    have m : ∃ k, k1 ≤ k ∧ k2 ≤ k ∧ k3 ≤ k ∧ k4 ≤ k ∧ k5 ≤ k := ⟨k1 + k2 + k3 + k4 + k5, by omega, by omega, by omega, by omega, by omega⟩
    obtain ⟨k, m1, m2, m3, m4, m5⟩ := m
    exact packed a0 cap0 l a1 w hl hC hc k b back (e1 k m1) (e2 k m2) (e3 k m3) (e4 k m4) (e5 k m5) hbk hlb hz

end Go.Proofs.Ytbkbdnlolfaneaa.HRoundPacks
