/- Plain helpers on rounds, whole numbers and lists; no program in sight. -/
import Derived.Test.YtbkbdnlolfaneaaWWords
import Derived.Test.YtbkbdnlolfaneaaWMore
import Derived.Test.YtbkbdnlolfaneaaWSized
import Derived.Laws.BitsLemmas
/-- A word of the print, under the name by which the rows over slices ask for it. -/
theorem Go.Proofs.Ytbkbdnlolfaneaa.PrintWords.sized_ints : type_of% @Go.Proofs.YtbkbdnlolfaneaaW.PrintWords.sized_ints := @Go.Proofs.YtbkbdnlolfaneaaW.PrintWords.sized_ints
namespace Go.Proofs.Ytbkbdnlolfaneaa.MBase
open Go.RowKit Go.Proofs.YtbkbdnlolfaneaaW.PrintWords

section
variable {α β : Type}
theorem Ev.const {o : Option α} {r : α} (h : o = some r) : Ev (fun _ => o) r := ⟨0, fun _ _ => h⟩
theorem Ev.pos {c : Prop} [Decidable c] {g g' : Nat → Option α} {r : α} (h : c) (e : Ev g r) : Ev (fun k => if c then g k else g' k) r := by
  obtain ⟨K, e⟩ := e
  exact ⟨K, fun k hk => (if_pos h).trans (e k hk)⟩
theorem Ev.neg {c : Prop} [Decidable c] {g g' : Nat → Option α} {r : α} (h : ¬ c) (e : Ev g' r) : Ev (fun k => if c then g k else g' k) r := by
  obtain ⟨K, e⟩ := e
  exact ⟨K, fun k hk => (if_neg h).trans (e k hk)⟩
theorem Ev.bindc {o : Option α} {f : Nat → α → Option β} {a : α} {r : β} (h : o = some a) (k : Ev (fun n => f n a) r) : Ev (fun n => o.bind (f n)) r := by
  subst h
  exact k
theorem Ev.eq {g : Nat → Option α} {r r' : α} (h : r = r') (e : Ev g r) : Ev g r' := h ▸ e
end

/-- A fact laid aside, out of omega's sight (it does not return where 'wrap64 ..' and '2 ^ n' stand together). -/
structure Box (p : Prop) : Prop where mk :: (out : p)
theorem w64 {x : Int} (h : -9223372036854775808 ≤ x) (h' : x ≤ 9223372036854775807) : wrap64 x = x := by
  unfold wrap64
  omega

theorem wf64 {x : Int} (h : (Lit.int .i64 x).wf = true) : -9223372036854775808 ≤ x ∧ x ≤ 9223372036854775807 := by
  simp only [Lit.wf, IntKind.min, IntKind.max, IntKind.signed, IntKind.bits, Bool.and_eq_true, decide_eq_true_eq, if_true] at h
  omega

theorem wfu8 {x : Int} (h : (Lit.int .u8 x).wf = true) : 0 ≤ x ∧ x < 256 := by
  simp only [Lit.wf, IntKind.min, IntKind.max, IntKind.signed, IntKind.bits, Bool.and_eq_true] at h
  simp at h
  omega

theorem emod_le {a b : Int} (h : 0 ≤ a) (hb : 0 < b) : a % b ≤ a := by
  have h1 := Int.emod_add_mul_ediv a b
  have h2 := Int.mul_nonneg (Int.le_of_lt hb) (Int.ediv_nonneg h (Int.le_of_lt hb))
  omega
theorem tm {a b : Int} (h : 0 ≤ a) : Int.tmod a b = a % b := Int.tmod_eq_emod_of_nonneg h
theorem td {a b : Int} (h : 0 ≤ a) : Int.tdiv a b = a / b := Int.tdiv_eq_ediv_of_nonneg h

theorem dd (a : Int) {b : Int} (c : Int) (hb : 0 < b) : a / b / c = a / (b * c) := Int.ediv_ediv_of_nonneg (by omega)
theorem pow_le {a : Int} (ha : 0 < a) {n m : Nat} (h : n ≤ m) : a ^ n ≤ a ^ m := by
  have e : a ^ m = a ^ n * a ^ (m - n) := by rw [← Int.pow_add]; congr 1; omega
  have h1 : 0 < a ^ n := Int.pow_pos ha
  have h2 : 0 < a ^ (m - n) := Int.pow_pos ha
  have h3 : a ^ n * 1 ≤ a ^ n * a ^ (m - n) := Int.mul_le_mul_of_nonneg_left (by omega) (by omega)
  omega

end Go.Proofs.Ytbkbdnlolfaneaa.MBase
