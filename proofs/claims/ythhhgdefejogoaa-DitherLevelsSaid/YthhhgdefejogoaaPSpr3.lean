/- Plain laws: pictures of few levels have levels' bytes alone. -/
import Derived.Test.YthhhgdefejogoaaPSpr2
import Derived.Test.YthhhgdefejogoaaPOrd
namespace Go.AW
open Go
set_option linter.unusedVariables false
/-- rows of three levels -/
def LevR (n : Int) (rows : List (List Int)) : Prop := ∀ k, k < rows.length → ∃ a b c : Int, rows.getD k [] = [atN n a, atN n b, atN n c]
namespace PS
theorem plain_len (n : Int) (rows : List (List Int)) : (plainR n rows).length = rows.length := by unfold plainR; simp
theorem plain_lev {n : Int} {rows : List (List Int)} (hf : Fit3 rows) : LevR n (plainR n rows) := by
  intro k hk
  rw [plain_len] at hk
  obtain ⟨x, y, z, e, _⟩ := hf k hk
  exact ⟨x, y, z, by unfold plainR; rw [PR.map_getD _ _ [] [] hk, e]; rfl⟩
theorem ord_lev {n W : Int} {rows : List (List Int)} (hf : Fit3 rows) : LevR n (ordR n W rows) := by
  intro k hk
  rw [PD.ord_len] at hk
  obtain ⟨x, y, z, e, _⟩ := hf k hk
  exact ⟨_, _, _, by rw [PD.ord_at _ _ _ hk, e]; rfl⟩
theorem spr_lev {n : Int} {W H : Nat} (hW : 0 < W) {rows : List (List Int)} : LevR n (sprR n W H rows) := by
  intro k hk
  rw [spr_len] at hk
  exact ⟨_, _, _, spr_at hW hk⟩
theorem lev_fit {n : Int} (h : 2 ≤ n ∧ n ≤ 16) {rows : List (List Int)} (hl : LevR n rows) : Fit3 rows := by
  intro k hk
  obtain ⟨a, b, c, e⟩ := hl k hk
  have h1 := PD.atN_b h.1 h.2 a
  have h2 := PD.atN_b h.1 h.2 b
  have h3 := PD.atN_b h.1 h.2 c
  exact ⟨_, _, _, e, by unfold I64; omega, by unfold I64; omega, by unfold I64; omega⟩
theorem lev_bytes {n : Int} (h : 2 ≤ n ∧ n ≤ 16) {rows : List (List Int)} (hl : LevR n rows) : rows.all bytesB = true := by
  refine PPi.all_yes fun k hk => ?_
  obtain ⟨a, b, c, e⟩ := hl k hk
  have h1 := PD.atN_b h.1 h.2 a
  have h2 := PD.atN_b h.1 h.2 b
  have h3 := PD.atN_b h.1 h.2 c
  rw [e]
  simp only [bytesB, byteB, List.all_cons, List.all_nil, Bool.and_true, Bool.and_eq_true, decide_eq_true_eq]
  exact ⟨h1, h2, h3⟩
theorem lev_pic {n : Int} (h : 2 ≤ n ∧ n ≤ 16) {W H : Int} {rows tgt : List (List Int)} (hp : picB W H rows = true) (hl : LevR n tgt) (hlen : tgt.length = rows.length) : picB W H tgt = true := by
  have := PPi.pic_sides hp
  unfold picB
  rw [lev_bytes h hl, Bool.true_and, hlen]
  exact decide_eq_true this
theorem lev_flat {n : Int} (h : 2 ≤ n ∧ n ≤ 16) {rows : List (List Int)} (hl : LevR n rows) : ∀ x ∈ rows.flatten, ∃ k, 0 ≤ k ∧ k < n ∧ x = lvI n k := by
  intro x hx
  obtain ⟨r, hr, hx⟩ := List.mem_flatten.1 hx
  obtain ⟨k, hk, rfl⟩ := List.getElem_of_mem hr
  obtain ⟨a, b, c, e⟩ := hl k hk
  rw [List.getD_eq_getElem?_getD, List.getElem?_eq_getElem hk, Option.getD_some] at e
  rw [e] at hx
  have key : ∀ y, ∃ k, 0 ≤ k ∧ k < n ∧ atN n y = lvI n k := fun y => by
    have := PD.nearF_spec h.1 h.2 y
    exact ⟨_, this.k0, this.k1, rfl⟩
  simp only [List.mem_cons, List.not_mem_nil, or_false] at hx
  rcases hx with rfl | rfl | rfl
  · exact key a
  · exact key b
  · exact key c
theorem lev_count {n : Int} (h : 2 ≤ n ∧ n ≤ 16) {rows : List (List Int)} (hl : LevR n rows) : countL rows.flatten ≤ n := PC.count_lev h.1 h.2 (lev_flat h hl)
theorem lev_pos {n : Int} (h : 2 ≤ n ∧ n ≤ 16) {rows : List (List Int)} (hl : LevR n rows) (h0 : 0 < rows.length) : 1 ≤ countL rows.flatten := by
  obtain ⟨a, b, c, e⟩ := hl 0 h0
  refine PC.count_pos (x := atN n a) ?_ (PD.atN_b h.1 h.2 a)
  rw [List.mem_flatten]
  refine ⟨rows.getD 0 [], ?_, by rw [e]; simp⟩
  rw [List.getD_eq_getElem?_getD, List.getElem?_eq_getElem h0]; exact List.getElem_mem h0
/-- levels' bytes stay so, plain -/
theorem plain_self {n : Int} (h : 2 ≤ n ∧ n ≤ 16) {rows : List (List Int)} (hl : LevR n rows) : plainR n rows = rows := by
  refine List.ext_getElem? fun k => ?_
  unfold plainR
  rw [List.getElem?_map]
  rcases Nat.lt_or_ge k rows.length with q | q
  · obtain ⟨a, b, c, e⟩ := hl k q
    rw [List.getD_eq_getElem?_getD, List.getElem?_eq_getElem q, Option.getD_some] at e
    rw [List.getElem?_eq_getElem q, Option.map_some, e]
    simp only [List.map_cons, List.map_nil, PD.atN_at h.1 h.2]
  · rw [List.getElem?_eq_none q]; rfl
theorem addAt_zero (l : List Int) (j : Nat) : addAt l j 0 = l := by
  unfold addAt
  rw [Int.add_zero]
  refine List.ext_getElem? fun m => ?_
  rw [List.getElem?_set]
  by_cases e : j = m
  · subst e
    by_cases g : j < l.length
    · rw [if_pos rfl, if_pos g, List.getD_eq_getElem?_getD, List.getElem?_eq_getElem g]; rfl
    · rw [if_pos rfl, if_neg g, List.getElem?_eq_none (by omega)]
  · rw [if_neg e]
theorem hand_zero (W H i : Nat) (l : List Int) : handOn W H i 0 l = l := by
  unfold handOn
  simp only [Int.mul_zero, Int.zero_ediv, addAt_zero, ite_self]
theorem set_self (l : List Int) (k : Nat) : l.set k (l.getD k 0) = l := by have := addAt_zero l k; unfold addAt at this; rwa [Int.add_zero] at this
theorem spUpto_self {n : Int} (h : 2 ≤ n ∧ n ≤ 16) (W H : Nat) {l : List Int} (hl : ∀ k, k < l.length → atN n (l.getD k 0) = l.getD k 0) : ∀ i, i ≤ l.length → spUpto n W H l i = l
  | 0, _ => rfl
  | i + 1, hi => by rw [PD.spUpto_set, spUpto_self h W H hl i (by omega), hl i (by omega), Int.sub_self, hand_zero, set_self]
theorem spr_self {n : Int} (h : 2 ≤ n ∧ n ≤ 16) (W H : Nat) {rows : List (List Int)} (hl : LevR n rows) : sprR n W H rows = rows := by
  have key : ∀ c, c < 3 → ∀ k, k < (colR c rows).length → atN n ((colR c rows).getD k 0) = (colR c rows).getD k 0 := by
    intro c hc k hk
    rw [col_len] at hk
    rw [col_at c hk]
    obtain ⟨x, y, z, e⟩ := hl k hk
    rw [e]
    rcases (show c = 0 ∨ c = 1 ∨ c = 2 by omega) with rfl | rfl | rfl <;> exact PD.atN_at h.1 h.2 _
  have e : ∀ c, c < 3 → spUpto n W H (colR c rows) rows.length = colR c rows := fun c hc => spUpto_self h W H (key c hc) _ (by rw [col_len]; exact Nat.le_refl _)
  unfold sprR
  rw [e 0 (by decide), e 1 (by decide), e 2 (by decide)]
  refine List.ext_getElem? fun k => ?_
  unfold zip3
  rw [List.getElem?_map]
  rcases Nat.lt_or_ge k rows.length with q | q
  · obtain ⟨x, y, z, e⟩ := hl k q
    rw [List.getElem?_range q, Option.map_some, col_at 0 q, col_at 1 q, col_at 2 q, e, List.getElem?_eq_getElem q]
    rw [List.getD_eq_getElem?_getD, List.getElem?_eq_getElem q, Option.getD_some] at e
    rw [e]; rfl
  · rw [List.getElem?_eq_none (by simpa using q), List.getElem?_eq_none q]; rfl
/-- half a step, rounded up -/
theorem half_step {n : Int} (h : 2 ≤ n ∧ n ≤ 16) {x : Int} (hx : 0 ≤ x ∧ x ≤ 255) : 2 * absD (atN n x - x) ≤ (255 + n - 2) / (n - 1) := by
  have hk := PD.nearF_spec h.1 h.2 x
  have z := PD.lv_0 n
  have l := PD.lv_last h.1
  -- the two levels about x
  obtain ⟨k, k0, k1, a, b⟩ : ∃ k, 0 ≤ k ∧ k + 1 < n ∧ lvI n k ≤ x ∧ x ≤ lvI n (k + 1) := by
    have key : ∀ (d : Nat) (k : Int), (n - 1 - k).toNat = d → 0 ≤ k → k + 1 < n → lvI n k ≤ x → ∃ k, 0 ≤ k ∧ k + 1 < n ∧ lvI n k ≤ x ∧ x ≤ lvI n (k + 1) := by
      intro d
      induction d with
      | zero => intro k h1 h2 h3 _; omega
      | succ d ih =>
        intro k h1 h2 h3 h4
        by_cases g : x ≤ lvI n (k + 1)
        · exact ⟨k, h2, h3, h4, g⟩
        · by_cases q : k + 1 + 1 < n
          · exact ih (k + 1) (by omega) (by omega) q (by omega)
          · rw [show k + 1 = n - 1 by omega] at g; omega
    exact key _ 0 rfl (by omega) (by omega) (by omega)
  have p := hk.le k k0 (by omega)
  have q := hk.le (k + 1) (by omega) k1
  have st : lvI n (k + 1) - lvI n k ≤ (255 + n - 2) / (n - 1) := by
    unfold lvI
    have a := Int.mul_ediv_add_emod (k * 255) (n - 1)
    have b := Int.mul_ediv_add_emod ((k + 1) * 255) (n - 1)
    have c := Int.emod_nonneg (k * 255) (show n - 1 ≠ 0 by omega)
    have d := Int.emod_lt_of_pos (k * 255) (show 0 < n - 1 by omega)
    have e := Int.emod_nonneg ((k + 1) * 255) (show n - 1 ≠ 0 by omega)
    refine Int.le_ediv_of_mul_le (by omega) ?_
    have m : ((k + 1) * 255 / (n - 1) - k * 255 / (n - 1)) * (n - 1) = (n - 1) * ((k + 1) * 255 / (n - 1)) - (n - 1) * (k * 255 / (n - 1)) := by grind
    omega
  unfold atN
  unfold absD at *
  omega
end PS
end Go.AW
