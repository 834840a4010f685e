/- Lists of hints packed, the program's way, walked. -/
import Derived.Test.YtbkbdnlolfaneaaNRound
import Derived.Test.YtbkbdnlolfaneaaPRound2
namespace Go.Proofs.Ytbkbdnlolfaneaa.NRound
open Go Go.RowKit Go.Proofs.Ytbkbdnlolfaneaa.MX Go.Proofs.Ytbkbdnlolfaneaa.PRound
set_option linter.unusedVariables false
set_option linter.unusedSimpArgs false
set_option linter.unusedVariables false
/-- Lists of truth values that are read. -/
structure BLs (w : World) (A : Option Addr) (c : Nat) (L : List (List Bool)) : Prop where
  le : L.length ≤ c
  cap : c ≤ 9223372036854775807
  nil : A = none → c = 0
  at_ : ∀ i l, L[i]? = some l → ∃ B d, w.cell? ((adOf A).add i) = some (.slice B l.length d) ∧ RdV w B d 1 l.length (l.map Value.bool)
theorem BLs.some {w : World} {A : Option Addr} {c : Nat} {L : List (List Bool)} (h : BLs w A c L) (hc : 0 < c) : A = Option.some (adOf A) := by
  cases A with
  | none => have := h.nil rfl; omega
  | some a => rfl
theorem BLs.keep {w w' : World} {A : Option Addr} {c : Nat} {L : List (List Bool)} (h : BLs w A c L) (hc : Chg (fun _ => False) w w') : BLs w' A c L :=
  ⟨h.le, h.cap, h.nil, fun i l hi => by
    obtain ⟨B, d, h1, h2⟩ := h.at_ i l hi
    exact ⟨B, d, cell_chg h1 hc (fun h => h), h2.keep hc (fun _ _ h => h)⟩⟩
/-- A list that may be none. -/
def TellsO (e : TypeId) (k : IntKind) (w : World) (o : Option (List Int)) : Ending → World → Prop := fun en w' => ∃ v, en = .returned (.tuple #[v, .bool o.isSome]) ∧ NewS e k w w' (o.getD []) v ∧ Chg (fun _ => False) w w'
section
variable {P : Program} {n : Nat} {R : Regs} {w0 : World} {cs : List Ch} {E : TypeId} {k : IntKind} {o : Option (List Int)} {e : Exit} {fn : Func} {t1 t2 : Nat}
theorem XT_tellsN (he : e = .ret ∨ e = .normal) (hr : fn.results = #[.tmp t1, .tmp t2]) (h1 : R.get t1 = some (.slice none 0 0)) (h2 : R.get t2 = some (.bool false)) (ho : o = none) :
    XT n (bodyPost P fn (TellsO E k w0 o)) e R (Hp w0 (fun _ => False) cs) := XT_ret2 he hr h1 h2 fun w hw => by
  subst ho
  exact ⟨_, rfl, ⟨none, 0, rfl, World.ownsRow_nil w 0 E 1, fun j hj => by cases (show (none : Option Nat) = some j from hj)⟩, hw.chg⟩
theorem XT_tellsS {A : Option Addr} {cap l : Nat} {xs : List Int} {put : Ch → List Ch} (he : e = .ret ∨ e = .normal) (hr : fn.results = #[.tmp t1, .tmp t2]) (h1 : R.get t1 = some (.slice A l cap)) (h2 : R.get t2 = some (.bool true)) (hl : l = xs.length) [h : PkS A cs cap E k xs put] (ho : o = some xs) :
    XT n (bodyPost P fn (TellsO E k w0 o)) e R (Hp w0 (fun _ => False) cs) := XT_ret2 he hr h1 h2 fun w hw => by
  subst ho
  subst hl
  refine ⟨_, rfl, ⟨A, cap, rfl, h.has hw, fun j hj => ?_⟩, hw.chg⟩
  obtain ⟨rest, h3, _⟩ := h.ok
  exact ((hw.of_perm h3).own _ (List.mem_cons_self ..) j hj).resolve_left (fun h => h)
end
theorem not_packB {L : List (List Bool)} {m : Int} (h : ¬ packOk L m) : packB L m = none := by unfold packB; rw [if_neg h]
set_option maxHeartbeats 4000000 in
theorem pack_any (L : List (List Bool)) (A : Option Addr) (c : Nat) (m : Int) (w : World) (h : BLs w A c L) (hm : (Lit.int .i64 m).wf = true) :
    Calls Try.prog 29 #[.slice A L.length c, .int .i64 m] w (TellsO 5 .u8 w (packB L m)) := by
  have hle := h.le
  have hcap := h.cap
  refine calls_of_X (vs := [_, _]) (M := Hp w (fun _ => False) []) Try.func29 rfl Try.ntmps29 rfl (Hp.nil _ _) ?_
  repeat first
    | refine XC_region ?_
    | refine X_nil ?_
    | refine XC_seq ?_
    | refine XT_seq ?_
    | refine Y_res (r_move rfl) rfl ?_
    | refine Y_res (r_assign rfl) rfl ?_
    | refine Y_res (r_lss rfl rfl) rfl ?_
  refine Y_split rfl rfl (fun h1 => ?_) (fun h1 => ?_)
  · repeat first
      | refine XC_region ?_
      | refine X_nil ?_
      | refine XC_condT rfl ?_
      | refine XC_seq ?_
      | refine XT_seq ?_
      | refine XT_then_ret ?_
      | refine XC_ret ?_
      | refine Y_res (r_move rfl) rfl ?_
      | refine Y_res (r_assign rfl) rfl ?_
      | refine Y_off rfl rfl rfl ?_
      | refine Y_res (r_pickT rfl rfl) rfl ?_
    exact XT_tellsN (.inl rfl) Try.results29 rfl rfl (not_packB fun q => by have := q.1; omega)
  repeat first
    | refine Y_res (r_move rfl) rfl ?_
    | refine Y_res (r_gtr rfl rfl) rfl ?_
    | refine Y_on rfl rfl ?_
    | refine Y_res (r_pickF rfl rfl) rfl ?_
  refine Y_split rfl rfl (fun h2 => ?_) (fun h2 => ?_)
  · repeat first
      | refine XC_region ?_
      | refine X_nil ?_
      | refine XC_condT rfl ?_
      | refine XC_seq ?_
      | refine XT_seq ?_
      | refine XT_then_ret ?_
      | refine XC_ret ?_
      | refine Y_res (r_assign rfl) rfl ?_
      | refine Y_off rfl rfl rfl ?_
      | refine Y_res (r_pickT rfl rfl) rfl ?_
    exact XT_tellsN (.inl rfl) Try.results29 rfl rfl (not_packB fun q => by have := q.2.1; omega)
  repeat first
    | refine X_nil ?_
    | refine XT_seq ?_
    | refine Y_res (r_move rfl) rfl ?_
    | refine Y_res (r_gtr rfl rfl) rfl ?_
    | refine Y_on rfl rfl ?_
    | refine Y_res (r_len rfl) rfl ?_
    | refine Y_res (r_pickF rfl rfl) rfl ?_
  refine XC_condP rfl (fun h3 => ?_) (fun h3 => ?_)
  · repeat first
      | refine XC_region ?_
      | refine X_nil ?_
      | refine XC_seq ?_
      | refine XT_seq ?_
      | refine XT_then_ret ?_
      | refine XC_ret ?_
      | refine Y_res (r_assign rfl) rfl ?_
    exact XT_tellsN (.inl rfl) Try.results29 rfl rfl (not_packB fun q => by have := q.2.2.1; omega)
  obtain ⟨q, rfl⟩ : ∃ q : Nat, m = q := ⟨m.toNat, by omega⟩
  repeat first
    | refine XC_region ?_
    | refine X_nil ?_
    | refine XC_seq ?_
    | refine XT_seq ?_
    | refine XC_block ?_
    | refine XC_skip ?_
    | refine Y_res (r_move rfl) rfl ?_
    | refine Y_res (r_assign rfl) rfl ?_
    | refine Y_res (r_add64 rfl rfl (by omega)) rfl ?_
    | refine Y_res (r_len rfl) rfl ?_
    | (refine X_make rfl rfl (by omega) (by omega) (by omega) rfl ?_; intro _ _)
  rename_i g hg
  have hq : q ≤ 255 := by omega
  have hL16 : L.length ≤ 16 := by omega
  clear h1 h2 h3 hm
  rw [← outS_0 L q]
  refine XC_loop (ι := Nat) (fun i => i ≤ L.length ∧ (∀ j l, j < i → L[j]? = some l → l.length = 256) ∧ (allP (L.take i)).length ≤ q) (fun i => [(0, .slice A L.length c), (1, .int .i64 q), (6, .slice (some ⟨g, 0, none⟩) (q + L.length) (q + L.length)), (7, .int .i64 (allP (L.take i)).length), (28, .slice A L.length c), (29, .int .i64 L.length), (30, .int .i64 i)])
    (fun i => Hp w (fun _ => False) [Ch.sl (some ⟨g, 0, none⟩) (q + L.length) 5 .u8 (outS L q i (allP (L.take i)))]) (fun i => L.length - i) 0 ⟨Nat.zero_le _, fun j l hj => by omega, by simp [allP]⟩ ⟨rfl, rfl, rfl, rfl, rfl, rfl, rfl, trivial⟩ (fun _ h => h) ?_
  rintro i ⟨hi, hlens, hcnt⟩
  repeat first
    | refine XC_region ?_
    | refine X_nil ?_
    | refine XC_seq ?_
    | refine XT_seq ?_
    | refine Y_res (r_lss rfl rfl) rfl ?_
  refine XC_condP rfl (fun hlt => ?_) (fun hge => ?_)
  · have hi2 : i < L.length := by omega
    have hA := h.some (by omega)
    obtain ⟨l, hl⟩ : ∃ l, L[i]? = some l := ⟨L[i], List.getElem?_eq_getElem hi2⟩
    have hLi : L[i] = l := by rw [List.getElem?_eq_getElem hi2] at hl; exact Option.some.inj hl
    obtain ⟨B, d, hcell, hrl⟩ := h.at_ i l hl
    have hld := hrl.le
    repeat first
      | refine XC_region ?_
      | refine X_nil ?_
      | refine XC_seq ?_
      | refine XT_seq ?_
      | refine XC_block ?_
      | refine XC_skip ?_
      | refine Y_res (r_move rfl) rfl ?_
      | refine Y_res (r_assign rfl) rfl ?_
      | refine Y_res (r_neq rfl rfl) rfl ?_
      | refine Y_res (r_len rfl) rfl ?_
      | refine Y_res (r_indexO rfl rfl hi2 hA) rfl ?_
      | refine Y_res (r_loadO rfl hcell (fun h => h)) rfl ?_
    refine XC_condP rfl (fun hbad => ?_) (fun hgood => ?_)
    · repeat first
        | refine XC_region ?_
        | refine X_nil ?_
        | refine XC_seq ?_
        | refine XT_seq ?_
        | refine XT_block_ret ?_
        | refine XT_then_ret ?_
        | refine XC_ret ?_
        | refine Y_res (r_assign rfl) rfl ?_
      exact XT_tellsN (.inl rfl) Try.results29 rfl rfl (not_packB fun q => hbad (by have := q.2.2.2.1 l (List.mem_of_getElem? hl); omega))
    have h256 : l.length = 256 := by omega
    repeat first
      | refine XC_region ?_
      | refine X_nil ?_
      | refine XC_seq ?_
      | refine XT_seq ?_
      | refine XC_block ?_
      | refine XC_skip ?_
      | refine Y_res (r_move rfl) rfl ?_
      | refine Y_res (r_len rfl) rfl ?_
    refine XC_loop (ι := Nat) (fun j => j ≤ l.length ∧ (allP (L.take i) ++ plc 0 (l.take j)).length ≤ q) (fun j => [(0, .slice A L.length c), (1, .int .i64 q), (6, .slice (some ⟨g, 0, none⟩) (q + L.length) (q + L.length)), (7, .int .i64 (allP (L.take i) ++ plc 0 (l.take j)).length), (8, .int .i64 i), (28, .slice A L.length c), (29, .int .i64 L.length), (30, .int .i64 i), (38, .slice B l.length d), (39, .int .i64 l.length), (40, .int .i64 j)])
      (fun j => Hp w (fun _ => False) [Ch.sl (some ⟨g, 0, none⟩) (q + L.length) 5 .u8 (outS L q i (allP (L.take i) ++ plc 0 (l.take j)))]) (fun j => l.length - j) 0 ⟨Nat.zero_le _, by simpa [plc] using hcnt⟩ ⟨rfl, rfl, rfl, by simp only [List.take_zero, plc, List.append_nil]; rfl, rfl, rfl, rfl, rfl, rfl, rfl, rfl, trivial⟩ (fun _ h => by simpa only [List.take_zero, plc, List.append_nil] using h) ?_
    rintro j ⟨hj, hcj⟩
    repeat first
      | refine XC_region ?_
      | refine X_nil ?_
      | refine XC_seq ?_
      | refine XT_seq ?_
      | refine Y_res (r_lss rfl rfl) rfl ?_
    refine XC_condP rfl (fun hlt2 => ?_) (fun hge2 => ?_)
    · have hj2 : j < l.length := by omega
      have hps := plc_succ l j hj2
      have hol := outS_len L q i (allP (L.take i) ++ plc 0 (l.take j)) hi hcj
      obtain ⟨b, hb⟩ : ∃ b, l[j]? = some b := ⟨l[j], List.getElem?_eq_getElem hj2⟩
      have hbv : (l.map Value.bool)[j]? = some (.bool b) := by rw [List.getElem?_map, hb]; rfl
      have hbd : l.getD j false = b := by rw [List.getD_eq_getElem?_getD, hb]; rfl
      rw [hbd] at hps
      repeat first
        | refine XC_region ?_
        | refine X_nil ?_
        | refine XC_seq ?_
        | refine XT_seq ?_
        | refine XC_block ?_
        | refine XC_skip ?_
        | refine Y_res (r_move rfl) rfl ?_
        | refine Y_res (r_assign rfl) rfl ?_
        | refine Y_res (r_notB rfl) rfl ?_
        | refine Y_res (r_indexRv rfl rfl hrl hj2 (by omega)) rfl ?_
        | refine Y_res (r_loadRv rfl hrl (fun _ _ h => h) hbv) rfl ?_
      cases b
      · repeat first
          | refine XC_region ?_
          | refine X_nil ?_
          | refine XC_condT rfl ?_
          | refine XT_seq ?_
          | refine XT_block_same rfl ?_
          | refine XT_then_exit ?_
          | refine XC_exit ?_
          | refine Y_res (r_move rfl) rfl ?_
          | refine Y_res (r_add64 rfl rfl (by omega)) rfl ?_
        simp only [Bool.false_eq_true, if_false, List.append_nil] at hps
        refine XT_round (j + 1) ⟨by omega, by rw [hps]; exact hcj⟩ (by omega) ⟨rfl, rfl, rfl, by rw [hps]; rfl, rfl, rfl, rfl, rfl, rfl, rfl, rfl, trivial⟩ (fun _ h => by rw [hps]; exact h)
      · simp only [if_true] at hps
        repeat first
          | refine XC_region ?_
          | refine X_nil ?_
          | refine XC_condF rfl ?_
          | refine XC_seq ?_
          | refine XT_seq ?_
          | refine XC_skip ?_
          | refine Y_res (r_move rfl) rfl ?_
          | refine Y_res (r_eql rfl rfl) rfl ?_
        refine XC_condP rfl (fun hfull => ?_) (fun hroom => ?_)
        · repeat first
            | refine XC_region ?_
            | refine X_nil ?_
            | refine XC_seq ?_
            | refine XT_seq ?_
            | refine XT_block_ret ?_
            | refine XT_then_ret ?_
            | refine XC_ret ?_
            | refine Y_res (r_assign rfl) rfl ?_
          refine XT_tellsN (.inl rfl) Try.results29 rfl rfl (not_packB fun q1 => ?_)
          have h1 := allP_le L i (j + 1) hi2
          have h2 := q1.2.2.2.2
          rw [hLi, hps, List.length_append, List.length_singleton] at h1
          rw [List.length_append] at hfull
          omega
        have hpl := outS_place L q i (allP (L.take i) ++ plc 0 (l.take j)) (j : Int) (by omega)
        repeat first
          | refine XC_region ?_
          | refine X_nil ?_
          | refine XC_seq ?_
          | refine XT_seq ?_
          | refine XT_block_normal ?_
          | refine XC_skip ?_
          | refine Y_res (r_move rfl) rfl ?_
          | refine Y_res (r_assign rfl) rfl ?_
          | refine Y_res (r_add64 rfl rfl (by omega)) rfl ?_
          | refine Y_res (r_conv8 rfl) rfl ?_
          | refine Y_res (r_indexS rfl rfl (by omega) (by first | omega | (simp only [List.length_set, List.length_replicate]; omega))) rfl ?_
          | refine X_storeI rfl rfl (by first | omega | (simp only [List.length_set, List.length_replicate]; omega)) ?_
        have e256 : (j : Int) % 256 = j := by omega
        have hnl : allP (L.take i) ++ plc 0 (l.take (j + 1)) = (allP (L.take i) ++ plc 0 (l.take j)) ++ [(j : Int)] := by rw [hps, List.append_assoc]
        rw [e256, hpl, ← hnl]
        have hnl2 : (allP (L.take i) ++ plc 0 (l.take (j + 1))).length = (allP (L.take i) ++ plc 0 (l.take j)).length + 1 := by rw [hnl, List.length_append]; rfl
        exact XT_round (j + 1) ⟨by omega, by omega⟩ (by omega) ⟨rfl, rfl, rfl, by rw [hnl2]; rfl, rfl, rfl, rfl, rfl, rfl, rfl, rfl, trivial⟩ (fun _ h => h)
    · obtain rfl : j = l.length := by omega
      have hcur : allP (L.take i) ++ plc 0 (l.take l.length) = allP (L.take (i + 1)) := by rw [List.take_length, allP_succ L i hi2, hLi]
      rw [hcur] at hcj ⊢
      have hol := outS_len L q i (allP (L.take (i + 1))) hi hcj
      repeat first
        | refine XC_region ?_
        | refine X_nil ?_
        | refine XT_seq ?_
        | refine XT_block_normal ?_
        | refine XT_block_same rfl ?_
        | refine XT_then_exit ?_
        | refine XC_exit ?_
        | refine Y_res (r_move rfl) rfl ?_
        | refine Y_res (r_add64 rfl rfl (by omega)) rfl ?_
        | refine Y_res (r_conv8 rfl) rfl ?_
        | refine Y_res (r_indexS rfl rfl (by omega) (by first | omega | (simp only [List.length_set, List.length_replicate]; omega))) rfl ?_
        | refine X_storeI rfl rfl (by first | omega | (simp only [List.length_set, List.length_replicate]; omega)) ?_
      have e256 : ((allP (L.take (i + 1))).length : Int) % 256 = (allP (L.take (i + 1))).length := by omega
      rw [e256, outS_end L q i hi2 hcj]
      exact XT_round (i + 1) ⟨by omega, fun k l2 hk hl2 => by
        rcases Nat.lt_or_ge k i with hk2 | hk2
        · exact hlens k l2 hk2 hl2
        · obtain rfl : k = i := by omega
          rw [hl] at hl2
          injection hl2 with hl2
          rw [← hl2]; exact h256, hcj⟩ (by omega) ⟨rfl, rfl, rfl, rfl, rfl, rfl, rfl, trivial⟩ (fun _ h => h)
  · obtain rfl : i = L.length := by omega
    rw [List.take_length] at hcnt ⊢
    have hol := outS_len L q L.length (allP L) (Nat.le_refl _) hcnt
    have hok : packOk L q := ⟨by omega, by omega, hL16, fun l hl => by
      obtain ⟨k, hk⟩ := List.getElem?_of_mem hl
      exact hlens k l (List.getElem?_eq_some_iff.1 hk).1 hk, by omega⟩
    repeat first
      | refine XC_region ?_
      | refine X_nil ?_
      | refine XC_seq ?_
      | refine XT_seq ?_
      | refine XT_block_same rfl ?_
      | refine XT_then_exit ?_
      | refine XC_exit ?_
      | refine XC_ret ?_
      | refine Y_res (r_move rfl) rfl ?_
      | refine Y_res (r_assign rfl) rfl ?_
    exact XT_tellsS (.inl rfl) Try.results29 rfl rfl hol.symm (outS_done L q hok)
end Go.Proofs.Ytbkbdnlolfaneaa.NRound
