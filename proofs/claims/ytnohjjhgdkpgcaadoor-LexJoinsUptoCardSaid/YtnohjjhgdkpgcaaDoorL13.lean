/- LEX: the law LexJoins, and its row over plain data -/
import Derived.Test.YtnohjjhgdkpgcaaDoorL12
open Go Go.Eng Go.Lx
namespace Go.Proofs
set_option linter.unusedVariables false
set_option linter.unusedSimpArgs false
set_option maxRecDepth 100000

def tot : List GT → Nat
  | [] => 0
  | g :: gs => g.s.size + 1 + tot gs
theorem tot_take : ∀ (gs : List GT) (i : Nat), tot (gs.take i) ≤ tot gs
  | [], i => by simp
  | g :: gs, 0 => by simp [tot]
  | g :: gs, i + 1 => by
    have := tot_take gs i
    simp only [List.take_succ_cons, tot]; omega
theorem joinG_len : ∀ gs : List GT, (joinG gs).length ≤ tot gs
  | [] => by simp [joinG, Lib.join, List.intercalate]
  | [g] => by simp [joinG, Lib.join, List.intercalate, tot, tx_len]
  | g :: h :: gs => by
    have := joinG_len (h :: gs)
    have e : joinG (g :: h :: gs) = tx g.s ++ (32 :: joinG (h :: gs)) := by simp [joinG, Lib.join, List.intercalate, List.intersperse]
    rw [e, tot, List.length_append, List.length_cons, tx_len]; omega
theorem len_tot : ∀ gs : List GT, gs.length ≤ tot gs
  | [] => Nat.le_refl _
  | g :: gs => by have := len_tot gs; simp [tot]; omega

section
variable {QD : List (St → Prop)} {QR : CRes → Prop}
theorem wp_Own {gs : List GT} (hl : gs.length ≤ 2000000000) {K : List (List AV) → KT} (hk : (K (gs.map rowG)).wp Pg cfg0 evp QD QR) :
    (KT.exR fun l1 => .call f_waferlaw03_Own [.slice 4 (gs.map rowG) .no] .none [] ⟨.ret (.slice 4 l1 .no), .none, []⟩ (K l1)).wp Pg cfg0 evp QD QR := ⟨_, c_Own hl, hk⟩
end
theorem law_Joins {gs hs : List GT} (hg : tot gs ≤ 2000000000) (hh : tot hs ≤ 2000000000) : evp f_waferlaw03_LexJoins [.slice 4 (gs.map rowG) .no, .slice 4 (hs.map rowG) .no] .none [] = some ⟨.ret (vB true), .none, []⟩ := by
  have lg := len_tot gs
  have lh := len_tot hs
  have jg := joinG_len gs
  have hB1 : gs.length < BIG := by unfold BIG; omega
  have hB2 : hs.length < BIG := by unfold BIG; omega
  have c1 := c_JoinG (ts := gs) (by omega) (by omega)
  have c2 := c_rJoin (ts := gs) (by omega) (fun i _ => Nat.le_trans (joinG_len _) (Nat.le_trans (tot_take gs i) hg))
  refine kt3_ev (wp_eq2 (X_LexJoins_eq _ _) (wp_Own (by omega) ⟨_, c1, _, c2, wp_if2 (fun _ => ?_) (fun h => ?_)⟩))
  · refine wp_Own (by omega) (wp_Own (by omega) ⟨_, c_SameG hB1 hB2, _, c_rSame hB1 hB2, wp_if2 (fun _ => ?_) (fun h => ?_)⟩)
    · refine wp_Own (by omega) (wp_Own (by omega) ⟨_, c_SameG hB1 hB1, wp_if2 (fun _ => wp_alive ⟨rfl, rfl⟩) (fun h => ?_)⟩)
      unfold sameG at h
      simp at h
    · simp at h
  · simp at h

theorem u_int : Pg.underlying y_int = some (.int .i64) := by kernel_rfl
theorem u_int64 : Pg.underlying y_int64 = some (.int .i64) := by kernel_rfl
theorem u_string : Pg.underlying y_string = some .string := by kernel_rfl
theorem s_Tok : structTys Pg y_waferref03_Token = some [y_int, y_string, y_int64, y_int] := by kernel_rfl
theorem inv_Tok {r : Row} (h : Has Pg y_waferref03_Token r) : ∃ (k : Int) (s : ByteArray) (n a : Int), r = [.int .i64 k, .str s, .int .i64 n, .int .i64 a] := by
  have h := h.fields s_Tok
  obtain ⟨k, r, rfl, w_k, h⟩ := h.int u_int
  obtain ⟨s, r, rfl, w_s, h⟩ := h.str u_string
  obtain ⟨n, r, rfl, w_n, h⟩ := h.int u_int64
  obtain ⟨a, r, rfl, w_a, h⟩ := h.int u_int
  obtain rfl := h.nil_inv
  exact ⟨k, s, n, a, rfl⟩
theorem toGT : ∀ {l : List Row}, (∀ r ∈ l, Has Pg y_waferref03_Token r) → ∃ gs : List GT, avss l = gs.map rowG ∧ tot gs ≤ bulkss l
  | [], _ => ⟨[], rfl, Nat.le_refl _⟩
  | r :: l, h => by
    obtain ⟨gs, h1, h2⟩ := toGT (l := l) fun x hx => h x (by simp [hx])
    obtain ⟨k, s, n, a, rfl⟩ := inv_Tok (h r (by simp))
    refine ⟨⟨k, s, n, a⟩ :: gs, ?_, ?_⟩
    · simp only [avss, avs, CT.av, h1, List.map_cons]; rfl
    · simp only [tot, bulkss, bulks, CT.bulk]; omega
theorem lexJoins_row {a b : List Row} (ha : ∀ r ∈ a, Has Pg y_waferref03_Token r) (hb : ∀ r ∈ b, Has Pg y_waferref03_Token r) (hs : bulks [.rows (Pg.cellsOf y_waferref03_Token) a] + (bulks [.rows (Pg.cellsOf y_waferref03_Token) b] + 0) ≤ 1048576) :
    ∃ H', evp f_waferlaw03_LexJoins [.slice 4 (avss a) .no, .slice 4 (avss b) .no] .none [] = some ⟨.ret (vB true), .none, H'⟩ := by
  simp only [bulks, CT.bulk] at hs
  obtain ⟨ga, a1, a2⟩ := toGT ha
  obtain ⟨gb, b1, b2⟩ := toGT hb
  rw [a1, b1]
  exact ⟨_, law_Joins (by omega) (by omega)⟩
end Go.Proofs
