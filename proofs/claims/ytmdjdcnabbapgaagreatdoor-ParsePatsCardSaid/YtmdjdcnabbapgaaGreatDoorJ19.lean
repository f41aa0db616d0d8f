/- Texts of this proof folded into one: Z10 U5 G13 RX9 R5 RX12. -/
import Derived.Test.YtmdjdcnabbapgaaGreatDoorJ18
import Derived.Test.YtmdjdcnabbapgaaGreatDoorJ10
import Derived.Test.YtmdjdcnabbapgaaGreatDoorJ15
import Derived.Test.YtmdjdcnabbapgaaGreatDoorJ17
import Derived.Test.YtmdjdcnabbapgaaGreatDoorJ16
section
/- LEX: the document's Lex; the law LexLexes -/
open Go Go.Eng Go.Lx
namespace Go.Proofs
set_option linter.unusedVariables false
set_option linter.unusedSimpArgs false
set_option maxRecDepth 100000
/-- what is left to do, blanks being gone over -/
def lxS (b : Bool) (l : T) (a cnt : Nat) : Except (Nat × Nat) (List Tok) :=
  match b with
  | false => .error (a, 10)
  | true => match l with
    | [] => .ok []
    | c :: r => match one resP (c :: r) with
      | .error e => .error (a, e)
      | .ok (k, n, v) => if cnt = 1024 then .error (a, 3) else (lx resP (r.drop (n - 1)) (a + n) (cnt + 1)).map (⟨k, (c :: r).take n, v, a⟩ :: ·)
theorem lx_lxS (l : T) (a cnt : Nat) : lx resP l a cnt = lxS (skp l).2 (l.drop (skp l).1) (a + (skp l).1) cnt := by
  rw [lx_eq]
  unfold lxS
  cases (skp l).2 with
  | false => rfl
  | true =>
    simp only
    cases l.drop (skp l).1 with
    | nil => rfl
    | cons c r =>
      simp only
      cases one resP (c :: r) with
      | error e => rfl
      | ok t => rfl
theorem y_rLex (s : ByteArray) (i : Int) (b : Bool) : (((X_rLex s).F.I i).B b).T = Y_rLex s i b := by delta Y_rLex X_rLex; rfl
theorem c_rLex (s : ByteArray) : evp f_waferref03_Lex [vS s] .none [] = some ⟨.ret (lexV (lexA s)), .none, []⟩ := by
  refine kt3_ev (wp_eq2 (X_rLex_eq s) (wp_if2 (fun h => ?_) (fun h => ?_)))
  · have h := of_decide_eq_true h
    refine ⟨rfl, ret_eq ?_⟩
    unfold lexA; rw [if_pos (by omega)]; rfl
  have h := of_decide_eq_false h
  have hs : s.size ≤ 4096 := by omega
  have hB : s.size < BIG := by unfold BIG; omega
  have hA : lexA s = lx resP (tx s) 0 0 := by unfold lexA; rw [if_neg (by omega)]
  rw [hA]
  have hX := lx_lxS (tx s) 0 0
  have hsk := c_rskip (s := s) (a := 0) hB (Nat.zero_le _)
  rw [List.drop_zero] at hsk
  have hb0 := skp_bound (l := tx s)
  rw [tx_len] at hb0
  generalize hXX : lx resP (tx s) 0 0 = X
  rw [hXX] at hX
  rw [Nat.zero_add] at hX hsk
  have hX2 : X = ahead [] (lxS (skp (tx s)).2 ((tx s).drop (skp (tx s)).1) (skp (tx s)).1 0) := by
    rw [hX]; cases lxS (skp (tx s)).2 ((tx s).drop (skp (tx s)).1) (skp (tx s)).1 0 <;> rfl
  refine ⟨_, _, hsk, wp_eq2 (y_rLex s _ _) (loop3 (fun x : List Tok × Nat × Bool => ⟨tm2 57 [(0, vS s), (5, slY x.1), (6, vI x.2.1), (7, vB x.2.2)], lm2 57 [], ⟨[], [], .none, 0⟩⟩)
    (fun x => x.2.1 ≤ s.size ∧ x.1.length ≤ 1024 ∧ X = ahead x.1 (lxS x.2.2 ((tx s).drop x.2.1) x.2.1 x.1.length)) (fun x => 1024 - x.1.length) ([], (skp (tx s)).1, (skp (tx s)).2) (by kernel_rfl) ⟨hb0, Nat.zero_le _, hX2⟩ ?_)⟩
  rintro ⟨ts, i, b⟩ ⟨h1, h2, h3⟩
  simp only at h1 h2 h3
  -- a round, told for both forms of the list
  have hend : (b = false → X = .error (i, 10)) ∧ (b = true → ¬ i < s.size → X = .ok ts) := by
    refine ⟨fun hb => ?_, fun hb hi => ?_⟩
    · subst hb; rw [h3]; rfl
    · subst hb
      rw [List.drop_eq_nil_of_le (by rw [tx_len]; omega)] at h3
      rw [h3]; simp [lxS, ahead]
  have hnext : b = true → i < s.size → ∃ r, evp f_waferref03_next [vS s, vI i] .none [] = some r ∧
      ((∃ (e : Nat) (k n m : Int) (t : ByteArray), e ≠ 0 ∧ r = ⟨.ret (.tuple [.agg [vI k, vS t, vI n, vI m], vI e]), .none, []⟩ ∧ X = .error (i, e)) ∨
       (∃ (k n v : Nat) (c : UInt8) (q : T), r = ⟨.ret (.tuple [.agg [vI k, vS (s.extract i (i + n)), vI v, vI i], vI 0]), .none, []⟩ ∧ (tx s).drop i = c :: q ∧ 1 ≤ n ∧ i + n ≤ s.size ∧
          (ts.length = 1024 → X = .error (i, 3)) ∧
          (ts.length < 1024 → X = ahead (ts ++ [⟨k, (c :: q).take n, v, i⟩]) (lxS (skp ((tx s).drop (i + n))).2 ((tx s).drop (i + n + (skp ((tx s).drop (i + n))).1)) (i + n + (skp ((tx s).drop (i + n))).1) (ts.length + 1))))) := by
    intro hb hi
    subst hb
    obtain ⟨c, q, hd, hc, hr⟩ := tx_at hi
    obtain ⟨r, h4, h5⟩ := c_rnext hs hi
    refine ⟨r, h4, ?_⟩
    rw [hd] at h5 h3
    cases hx : one resP (c :: q) with
    | error e =>
      rw [hx] at h5
      obtain ⟨k, n, m, t, h6⟩ := h5
      refine .inl ⟨e, k, n, m, t, one_err0 hx, h6, ?_⟩
      rw [h3]; simp only [lxS, hx]; rfl
    | ok t =>
      obtain ⟨k, n, v⟩ := t
      rw [hx] at h5
      obtain ⟨b1, b2, _⟩ := one_bound hx
      have hlen : q.length + 1 = s.size - i := by have e := congrArg List.length hd; rw [List.length_drop, tx_len] at e; simp at e; omega
      simp only [List.length_cons] at b2
      refine .inr ⟨k, n, v, c, q, h5, hd, b1, by omega, fun hl => ?_, fun hl => ?_⟩
      · rw [h3]; simp only [lxS, hx]; rw [if_pos hl]; rfl
      · rw [h3]; simp only [lxS, hx]
        rw [if_neg (by omega), ahead_map, drop_pred c q b1, ← hd, List.drop_drop]
        congr 1
        rw [lx_lxS, List.drop_drop]
        simp only [lxS]
  cases ts with
  | nil =>
    refine wp_eq2 (X_rLexR0_eq s _ _ i b) (wp_if2 (fun hb => ?_) (fun hb => ?_))
    · refine wp_if2 (fun hi => ?_) (fun hi => ?_)
      · have hi := of_decide_eq_true hi
        obtain ⟨r, h4, h5⟩ := hnext hb (by omega)
        rcases h5 with ⟨e, k, n, m, t, he, rfl, h6⟩ | ⟨k, n, v, c, q, rfl, hd, b1, b2, h6, h7⟩
        · refine ⟨_, _, _, _, _, h4, wp_if2 (fun _ => wp_out ⟨rfl, ret_eq ?_⟩) (fun hz => ?_)⟩
          · rw [h6]; rfl
          · rw [ne0 he] at hz; cases hz
        · refine ⟨_, _, _, _, _, h4, wp_if2 (fun hz => absurd hz (by decide)) (fun _ => wp_if2 (fun hq => absurd hq (by decide)) (fun _ => ⟨by decide, ?_⟩))⟩
          have hsk2 := c_rskip (s := s) (a := i + n) hB b2
          have hbn := skp_bound (l := (tx s).drop (i + n))
          rw [List.length_drop, tx_len] at hbn
          have e1 : IntKind.i64.wrap ((i : Int) + ((s.extract i (i + n)).size : Int)) = ((i + n : Nat) : Int) := by rw [ext_size b2]; exact kw_add (by omega)
          simp only [e1]
          refine ⟨_, _, hsk2, wp_done ⟨([⟨k, (c :: q).take n, v, i⟩], i + n + (skp ((tx s).drop (i + n))).1, (skp ((tx s).drop (i + n))).2), ⟨⟨by simp only; omega, by simp, ?_⟩, by simp⟩, ?_⟩⟩
          · exact h7 (by simp)
          · rw [show slY [⟨k, (c :: q).take n, v, i⟩] = .slice 4 [tokRow ⟨k, (c :: q).take n, v, i⟩] .yes from rfl, ← row_eq hd]; try rfl
      · have hi := of_decide_eq_false hi
        refine wp_out (wp_if2 (fun hz => by rw [hb] at hz; cases hz) (fun _ => ⟨rfl, ret_eq ?_⟩))
        rw [hend.2 hb (by omega)]; rfl
    · refine wp_out (wp_if2 (fun _ => ⟨rfl, ret_eq ?_⟩) (fun hz => by rw [hb] at hz; cases hz))
      rw [hend.1 hb]; rfl
  | cons t0 ts =>
    refine wp_eq2 (X_rLexR_eq s _ _ (tokRow t0 :: ts.map tokRow) i b) (wp_if2 (fun hb => ?_) (fun hb => ?_))
    · refine wp_if2 (fun hi => ?_) (fun hi => ?_)
      · have hi := of_decide_eq_true hi
        obtain ⟨r, h4, h5⟩ := hnext hb (by omega)
        have hll : (tokRow t0 :: ts.map tokRow).length = (t0 :: ts).length := by simp
        rcases h5 with ⟨e, k, n, m, t, he, rfl, h6⟩ | ⟨k, n, v, c, q, rfl, hd, b1, b2, h6, h7⟩
        · refine ⟨_, _, _, _, _, h4, wp_if2 (fun _ => wp_out ⟨rfl, ret_eq ?_⟩) (fun hz => ?_)⟩
          · rw [h6]; rfl
          · rw [ne0 he] at hz; cases hz
        · refine ⟨_, _, _, _, _, h4, wp_if2 (fun hz => absurd hz (by decide)) (fun _ => wp_if2 (fun hq => ?_) (fun hq => ?_))⟩
          · have hq : ((tokRow t0 :: ts.map tokRow).length : Int) = 1024 := by simpa using hq
            rw [hll] at hq
            refine wp_out ⟨rfl, ret_eq ?_⟩
            rw [h6 (by omega)]; rfl
          · have hq : ¬ ((tokRow t0 :: ts.map tokRow).length : Int) = 1024 := by simpa using hq
            rw [hll] at hq
            have hl : (t0 :: ts).length < 1024 := by omega
            refine ⟨by rw [Nat.ble_eq]; simp at hl ⊢; omega, ?_⟩
            have hsk2 := c_rskip (s := s) (a := i + n) hB b2
            have hbn := skp_bound (l := (tx s).drop (i + n))
            rw [List.length_drop, tx_len] at hbn
            have e1 : IntKind.i64.wrap ((i : Int) + ((s.extract i (i + n)).size : Int)) = ((i + n : Nat) : Int) := by rw [ext_size b2]; exact kw_add (by omega)
            simp only [e1]
            refine ⟨_, _, hsk2, wp_done ⟨(t0 :: ts ++ [⟨k, (c :: q).take n, v, i⟩], i + n + (skp ((tx s).drop (i + n))).1, (skp ((tx s).drop (i + n))).2), ⟨⟨by simp only; omega, by simp at hl ⊢; omega, ?_⟩, by simp at hl ⊢; omega⟩, ?_⟩⟩
            · simp only [List.length_append, List.length_cons, List.length_nil]
              exact h7 hl
            · simp only [slY_snoc]
              rw [← row_eq hd]; try rfl
      · have hi := of_decide_eq_false hi
        refine wp_out (wp_if2 (fun hz => by rw [hb] at hz; cases hz) (fun _ => ⟨rfl, ret_eq ?_⟩))
        rw [hend.2 hb (by omega)]; rfl
    · refine wp_out (wp_if2 (fun _ => ⟨rfl, ret_eq ?_⟩) (fun hz => by rw [hb] at hz; cases hz))
      rw [hend.1 hb]; rfl
theorem wp_rLex {s : ByteArray} {K : List (List AV) → Int → Int → KT} {QD : List (St → Prop)} {QR : CRes → Prop} (hok : ∀ ts, lexA s = .ok ts → (K (ts.map tokRow) 0 0).wp Pg cfg0 evp QD QR) (herr : ∀ p e, lexA s = .error (p, e) → (K [] p e).wp Pg cfg0 evp QD QR) :
    (KT.exR fun l => .exI fun i => .exI fun i1 => .call f_waferref03_Lex [vS s] .none [] ⟨.ret (.tuple [.slice 4 l .no, vI i, vI i1]), .none, []⟩ (K l i i1)).wp Pg cfg0 evp QD QR := by
  have h := c_rLex s
  cases hx : lexA s with
  | ok ts => rw [hx] at h; exact ⟨_, _, _, h, hok ts hx⟩
  | error e => obtain ⟨p, e⟩ := e; rw [hx] at h; exact ⟨_, _, _, h, herr p e hx⟩
end Go.Proofs
end

section
/- PARSE: what a text is as a type: the program's and the document's answer -/
set_option linter.unusedVariables false
set_option linter.unusedSimpArgs false
set_option maxRecDepth 100000
open Go Go.Eng Go.Pa
open Go.Lx (T Tok)
namespace Go.Proofs
theorem ktc7_is {f : FuncId} {args : List AV} {H : Heap} {r : CRes} (h : (ktc7 f args H).wp Pg cfg0 evp [] (fun x => x = r)) : evp f args .none H = some r := ktc7_ev h
theorem low_hp {l : List Tok} {z e p d : Int} {n : Nat} : lowss n [hp5 (tks l) z e p d] = true := by
  simp only [lowss, lows, AV.low, Bool.and_true, lows_tks, Bool.true_and]; rfl
end Go.Proofs
end

section
/- PARSE, plain: how many nodes patterns have, how deep they are; their names are short -/
set_option linter.unusedVariables false
set_option linter.unusedSimpArgs false
namespace Go.Pa
open Go.Lx (T Tok)
def Pat.cnt : Pat → Nat
  | .pair a b => a.cnt + b.cnt + 1
  | .conA _ a => a.cnt + 1
  | _ => 1
def Pat.dep : Pat → Nat
  | .pair a b => max a.dep b.dep + 1
  | .conA _ a => a.dep + 1
  | _ => 1
def Pat.Ok : Pat → Prop
  | .var n => nameOk n
  | .int v => 0 ≤ v ∧ v < 9223372036854775808
  | .con p => pathOk p
  | .conA p a => pathOk p ∧ a.Ok
  | .pair a b => a.Ok ∧ b.Ok
  | _ => True
structure WtP (z n : Nat) : Prop where
  pat : ∀ {l}, tok4 l → Wt Pat.Ok Pat.cnt l.length (pPat z n l)
  ap : ∀ {l}, tok4 l → Wt Pat.Ok Pat.cnt l.length (pAp z n l)
theorem wtP (z : Nat) : ∀ n, WtP z n := by
  intro n
  induction n with
  | zero => exact ⟨fun _ => (by rw [pPat]; exact Wt.no), fun _ => (by rw [pAp]; exact Wt.no)⟩
  | succ n ih =>
    constructor
    · intro l h
      rw [pPat]
      refine Wt.ite (fun _ => Wt.bind (Wt.path _ (Nat.le_refl _) h (fun w hw => by cases hw)) fun x r k1 k2 k3 => Wt.ite (fun _ => Wt.bind (ih.ap k3) fun a r' j1 j2 j3 => Wt.ok ⟨k1, j1⟩ (by simp only [Pat.cnt]; omega) j3) (fun _ => Wt.ok k1 k2 k3)) (fun _ => ih.ap h)
    · intro l h
      have hl : ∀ {w : T}, isW w l = true → 1 + l.tail.length ≤ l.length := fun hw => by have := isW_len hw; omega
      have hk : ∀ {k : Nat}, ofK k l = true → 1 + l.tail.length ≤ l.length := fun hw => by have := ofK_len hw; omega
      rw [pAp]
      refine Wt.ite (fun hw => Wt.ok trivial (hl hw) h.tail) fun _ => Wt.ite (fun hw => Wt.ok trivial (hl hw) h.tail) fun _ => Wt.ite (fun hw => Wt.ok trivial (hl hw) h.tail) fun _ => Wt.ite (fun hw => Wt.ok ?_ (hk hw) h.tail) fun _ => Wt.ite (fun hw => Wt.ok ?_ (hk hw) h.tail) fun _ => Wt.ite (fun hw => ?_) fun _ => ?_
      · cases l with
        | nil => cases hw
        | cons t l =>
          have := h.headN
          show 0 ≤ t.n ∧ t.n < 9223372036854775808
          omega
      · cases l with
        | nil => cases hw
        | cons t l => exact h.head
      · exact Wt.bind (Wt.path _ (Nat.le_refl _) h (fun w hw => by cases hw)) fun x r k1 k2 k3 => Wt.ok k1 k2 k3
      · refine Wt.bind (Wt.need h) fun _ l j1 j2 j3 => Wt.ite (fun hw => Wt.ok trivial (by have := isW_len hw; simp only [Pat.cnt]; omega) j3.tail) fun _ => Wt.bind (ih.pat j3) fun p r k1 k2 k3 => Wt.ite (fun hw => ?_) (fun _ => Wt.bind (Wt.need k3) fun _ r' i1 i2 i3 => Wt.ok k1 (by omega) i3)
        have := isW_len hw
        exact Wt.bind (ih.pat k3.tail) fun q r2 q1 q2 q3 => Wt.bind (Wt.need q3) fun _ r' i1 i2 i3 => Wt.ok ⟨k1, q1⟩ (by simp only [Pat.cnt]; omega) i3
theorem pdep_cnt : ∀ t : Pat, t.dep ≤ t.cnt ∧ 1 ≤ t.cnt
  | .pair a b => by have h1 := pdep_cnt a; have h2 := pdep_cnt b; simp only [Pat.dep, Pat.cnt]; omega
  | .conA _ a => by have h1 := pdep_cnt a; simp only [Pat.dep, Pat.cnt]; omega
  | .any => ⟨Nat.le_refl _, Nat.le_refl _⟩
  | .var _ => ⟨Nat.le_refl _, Nat.le_refl _⟩
  | .int _ => ⟨Nat.le_refl _, Nat.le_refl _⟩
  | .tru => ⟨Nat.le_refl _, Nat.le_refl _⟩
  | .fls => ⟨Nat.le_refl _, Nat.le_refl _⟩
  | .unit => ⟨Nat.le_refl _, Nat.le_refl _⟩
  | .con _ => ⟨Nat.le_refl _, Nat.le_refl _⟩
end Go.Pa
end

section
/- TREES, printed by kt.py out of y9.txt -/
open Go Go.Eng
namespace Go.Proofs
set_option linter.unusedVariables false
set_option maxRecDepth 100000
@[irreducible] noncomputable def X_pPat (l : List (List AV)) (z : Int) (d : Int) : KT := kt5 f_parsecore_Reader_Pat [AV.ptr 0 0] [[AV.slice 4 l Own.no, vI z, vI 0, vI 0, vI d]]
theorem X_pPat_eq (l : List (List AV)) (z : Int) (d : Int) : kt5 f_parsecore_Reader_Pat [AV.ptr 0 0] [[AV.slice 4 l Own.no, vI z, vI 0, vI 0, vI d]] =
 (.stage
 (.branch (false)
 (.branch (!false)
 (.branch (decide (d > 0))
 (.out (.need (lowss 1 (l))
 (.need true
 (.ret ⟨(.panic (.iface y_parsecore_failure (.agg []))), .none, [[(.slice 4 (l) .no), (vI (z)), (vI (0)), (vI (0)), (vI (d))]]⟩))))
 (.out (.need (lowss 1 [])
 (.need (lowss 1 [])
 (.need (lowss 1 (l))
 (.need true
 (.ret ⟨(.ret (.agg [(vI (0)), (vS ((⟨#[]⟩ : ByteArray))), (.slice 1 [] .no), (vI (0)), (.slice 5 [] .no)])), .none, [[(.slice 4 (l) .no), (vI (z)), (vI (0)), (vI (0)), (vI (d))]]⟩)))))))
 (.out (.need (lowss 1 [])
 (.need (lowss 1 [])
 (.need (lowss 1 (l))
 (.need true
 (.ret ⟨(.ret (.agg [(vI (0)), (vS ((⟨#[]⟩ : ByteArray))), (.slice 1 [] .no), (vI (0)), (.slice 5 [] .no)])), .none, [[(.slice 4 (l) .no), (vI (z)), (vI (0)), (vI (0)), (vI (d))]]⟩)))))))
 (.branch (0 != 0)
 (.branch (!false)
 (.branch (decide (d > 0))
 (.out (.need (lowss 1 (l))
 (.need true
 (.ret ⟨(.panic (.iface y_parsecore_failure (.agg []))), .none, [[(.slice 4 (l) .no), (vI (z)), (vI (0)), (vI (0)), (vI (d))]]⟩))))
 (.out (.need (lowss 1 [])
 (.need (lowss 1 [])
 (.need (lowss 1 (l))
 (.need true
 (.ret ⟨(.ret (.agg [(vI (0)), (vS ((⟨#[]⟩ : ByteArray))), (.slice 1 [] .no), (vI (0)), (.slice 5 [] .no)])), .none, [[(.slice 4 (l) .no), (vI (z)), (vI (0)), (vI (0)), (vI (d))]]⟩)))))))
 (.out (.need (lowss 1 [])
 (.need (lowss 1 [])
 (.need (lowss 1 (l))
 (.need true
 (.ret ⟨(.ret (.agg [(vI (0)), (vS ((⟨#[]⟩ : ByteArray))), (.slice 1 [] .no), (vI (0)), (.slice 5 [] .no)])), .none, [[(.slice 4 (l) .no), (vI (z)), (vI (0)), (vI (0)), (vI (d))]]⟩)))))))
 (.done ⟨tm2 37 [(1, (.func (.func f_parsecore_Reader_pat) [] [])), (2, (.ref [(.ptr 0 0)])), (4, (.ptr 1 0))], lm2 37 [], ⟨[[(.slice 4 (l) .no), (vI (z)), (vI (0)), (vI (0)), (vI (d))], [(vI (0)), (vS ((⟨#[]⟩ : ByteArray))), (.slice 0 [] .full), (vI (0)), (.slice 0 [] .full)]], [], .none, 1⟩⟩)))
 ((X_pPat l z d).K)) := by kernel_rfl
theorem X_pPats1_eq (l : List (List AV)) (z : Int) (d : Int) : (X_pPat l z d).K ⟨tm2 37 [(1, (.func (.func f_parsecore_Reader_pat) [] [])), (2, (.ref [(.ptr 0 0)])), (4, (.ptr 1 0))], lm2 37 [], ⟨[[(.slice 4 (l) .no), (vI (z)), (vI (0)), (vI (0)), (vI (d))], [(vI (0)), (vS ((⟨#[]⟩ : ByteArray))), (.slice 0 [] .full), (vI (0)), (.slice 0 [] .full)]], [], .none, 1⟩⟩ =
 (.alt
 (.exI fun i =>
 (.exS fun s =>
 (.exR fun l1 =>
 (.exI fun i1 =>
 (.exR fun l2 =>
 (.exR fun l3 =>
 (.exI fun i2 =>
 (.exI fun i3 =>
 (.exI fun i4 =>
 (.exI fun i5 =>
 (.exI fun i6 =>
 (.exS fun s1 =>
 (.exR fun l4 =>
 (.exI fun i7 =>
 (.exR fun l5 =>
 (.call f_parsecore_Reader_pat [(.ptr 0 0)] .none [[(.slice 4 (l) .no), (vI (z)), (vI (0)), (vI (0)), (vI (IntKind.i64.wrap (d + 1)))], [(vI (0)), (vS ((⟨#[]⟩ : ByteArray))), (.slice 0 [] .full), (vI (0)), (.slice 0 [] .full)]] ⟨(.ret (.agg [(vI (i)), (vS (s)), (.slice 1 (l1) .no), (vI (i1)), (.slice 5 (l2) .no)])), .none, [[(.slice 4 (l3) .no), (vI (i2)), (vI (i3)), (vI (i4)), (vI (i5))], [(vI (i6)), (vS (s1)), (.slice 0 (l4) .full), (vI (i7)), (.slice 0 (l5) .full)]]⟩
 (.branch (true)
 (.need (lowss 1 (l1))
 (.need (lowss 1 (l2))
 (.need (lowss 1 (l3))
 (.need true
 (.ret ⟨(.ret (.agg [(vI (i)), (vS (s)), (.slice 1 (l1) .no), (vI (i1)), (.slice 5 (l2) .no)])), .none, [[(.slice 4 (l3) .no), (vI (i2)), (vI (i3)), (vI (i4)), (vI (IntKind.i64.wrap (i5 - 1)))]]⟩)))))
 (.branch (false)
 (.branch (decide (IntKind.i64.wrap (i5 - 1) > 0))
 (.need (lowss 1 (l3))
 (.need true
 (.ret ⟨(.panic (.iface y_parsecore_failure (.agg []))), .none, [[(.slice 4 (l3) .no), (vI (i2)), (vI (i3)), (vI (i4)), (vI (IntKind.i64.wrap (i5 - 1)))]]⟩)))
 (.need (lowss 1 [])
 (.need (lowss 1 [])
 (.need (lowss 1 (l3))
 (.need true
 (.ret ⟨(.ret (.agg [(vI (0)), (vS ((⟨#[]⟩ : ByteArray))), (.slice 1 [] .no), (vI (0)), (.slice 5 [] .no)])), .none, [[(.slice 4 (l3) .no), (vI (i2)), (vI (i3)), (vI (i4)), (vI (IntKind.i64.wrap (i5 - 1)))]]⟩))))))
 .fail))))))))))))))))))
 (.exR fun l1 =>
 (.exI fun i =>
 (.exI fun i1 =>
 (.exI fun i2 =>
 (.exI fun i3 =>
 (.exI fun i4 =>
 (.exS fun s =>
 (.exR fun l2 =>
 (.exI fun i5 =>
 (.exR fun l3 =>
 (.call f_parsecore_Reader_pat [(.ptr 0 0)] .none [[(.slice 4 (l) .no), (vI (z)), (vI (0)), (vI (0)), (vI (IntKind.i64.wrap (d + 1)))], [(vI (0)), (vS ((⟨#[]⟩ : ByteArray))), (.slice 0 [] .full), (vI (0)), (.slice 0 [] .full)]] ⟨(.panic (.iface y_parsecore_failure (.agg []))), .none, [[(.slice 4 (l1) .no), (vI (i)), (vI (i1)), (vI (i2)), (vI (i3))], [(vI (i4)), (vS (s)), (.slice 0 (l2) .full), (vI (i5)), (.slice 0 (l3) .full)]]⟩
 (.branch (false)
 (.need (lowss 1 (l2))
 (.need (lowss 1 (l3))
 (.need (lowss 1 (l1))
 (.need true
 (.ret ⟨(.ret (.agg [(vI (i4)), (vS (s)), (normS Pg (y_s_string : TypeId) (AV.slice 0 l2 Own.full).dis.dis.dis), (vI (i5)), (normS Pg (y_s_api_Pat : TypeId) (AV.slice 0 l3 Own.full).dis.dis.dis)])), .none, [[(.slice 4 (l1) .no), (vI (i)), (vI (i1)), (vI (i2)), (vI (IntKind.i64.wrap (i3 - 1)))]]⟩)))))
 (.branch (true)
 (.branch (decide (IntKind.i64.wrap (i3 - 1) > 0))
 (.need (lowss 1 (l1))
 (.need true
 (.ret ⟨(.panic (.iface y_parsecore_failure (.agg []))), .none, [[(.slice 4 (l1) .no), (vI (i)), (vI (i1)), (vI (i2)), (vI (IntKind.i64.wrap (i3 - 1)))]]⟩)))
 (.need (lowss 1 [])
 (.need (lowss 1 [])
 (.need (lowss 1 (l1))
 (.need true
 (.ret ⟨(.ret (.agg [(vI (0)), (vS ((⟨#[]⟩ : ByteArray))), (.slice 1 [] .no), (vI (0)), (.slice 5 [] .no)])), .none, [[(.slice 4 (l1) .no), (vI (i)), (vI (i1)), (vI (i2)), (vI (IntKind.i64.wrap (i3 - 1)))]]⟩))))))
 (.need (lowss 1 (l1))
 (.need true
 (.ret ⟨(.panic (.iface y_parsecore_failure (.agg []))), .none, [[(.slice 4 (l1) .no), (vI (i)), (vI (i1)), (vI (i2)), (vI (IntKind.i64.wrap (i3 - 1)))]]⟩))))))))))))))))) := by kernel_rfl
theorem X_ppat_eq (l : List (List AV)) (z : Int) (d : Int) : kt5 f_parsecore_Reader_pat [AV.ptr 0 0] [[AV.slice 4 l Own.no, vI z, vI 0, vI 0, vI d]] =
 (.exB fun b =>
 (.call f_parsecore_Reader_of [(.ptr 0 0), (vI (2))] .none [[(.slice 4 (l) .no), (vI (z)), (vI (0)), (vI (0)), (vI (d))]] ⟨(.ret (vB (b))), .none, [[(.slice 4 (l) .no), (vI (z)), (vI (0)), (vI (0)), (vI (d))]]⟩
 (.branch (!b)
 (.alt
 (.exI fun i =>
 (.exS fun s =>
 (.exR fun l1 =>
 (.exI fun i1 =>
 (.exR fun l2 =>
 (.exR fun l3 =>
 (.exI fun i2 =>
 (.exI fun i3 =>
 (.exI fun i4 =>
 (.exI fun i5 =>
 (.call f_parsecore_Reader_apat [(.ptr 0 0)] .none [[(.slice 4 (l) .no), (vI (z)), (vI (0)), (vI (0)), (vI (d))]] ⟨(.ret (.agg [(vI (i)), (vS (s)), (.slice 1 (l1) .no), (vI (i1)), (.slice 5 (l2) .no)])), .none, [[(.slice 4 (l3) .no), (vI (i2)), (vI (i3)), (vI (i4)), (vI (i5))]]⟩
 (.need true
 (.ret ⟨(.ret (.agg [(vI (i)), (vS (s)), (.slice 1 (l1) .no), (vI (i1)), (.slice 5 (l2) .no)])), .none, [[(.slice 4 (l3) .no), (vI (i2)), (vI (i3)), (vI (i4)), (vI (i5))]]⟩)))))))))))))
 (.exR fun l1 =>
 (.exI fun i =>
 (.exI fun i1 =>
 (.exI fun i2 =>
 (.exI fun i3 =>
 (.call f_parsecore_Reader_apat [(.ptr 0 0)] .none [[(.slice 4 (l) .no), (vI (z)), (vI (0)), (vI (0)), (vI (d))]] ⟨(.panic (.iface y_parsecore_failure (.agg []))), .none, [[(.slice 4 (l1) .no), (vI (i)), (vI (i1)), (vI (i2)), (vI (i3))]]⟩
 (.need true
 (.ret ⟨(.panic (.iface y_parsecore_failure (.agg []))), .none, [[(.slice 4 (l1) .no), (vI (i)), (vI (i1)), (vI (i2)), (vI (i3))]]⟩)))))))))
 (.alt
 (.exR fun l1 =>
 (.exB fun b1 =>
 (.exR fun l2 =>
 (.exI fun i =>
 (.exI fun i1 =>
 (.exI fun i2 =>
 (.exI fun i3 =>
 (.call f_parsecore_Reader_path [(.ptr 0 0), (vB false), (vB true)] .none [[(.slice 4 (l) .no), (vI (z)), (vI (0)), (vI (0)), (vI (d))]] ⟨(.ret (.tuple [(.slice 1 (l1) .no), (vB (b1))])), .none, [[(.slice 4 (l2) .no), (vI (i)), (vI (i1)), (vI (i2)), (vI (i3))]]⟩
 (.exB fun b2 =>
 (.call f_parsecore_Reader_begins [(.ptr 0 0)] .none [[(.slice 4 (l2) .no), (vI (i)), (vI (i1)), (vI (i2)), (vI (i3))]] ⟨(.ret (vB (b2))), .none, [[(.slice 4 (l2) .no), (vI (i)), (vI (i1)), (vI (i2)), (vI (i3))]]⟩
 (.branch (b2)
 (.alt
 (.exI fun i4 =>
 (.exS fun s =>
 (.exR fun l3 =>
 (.exI fun i5 =>
 (.exR fun l4 =>
 (.exR fun l5 =>
 (.exI fun i6 =>
 (.exI fun i7 =>
 (.exI fun i8 =>
 (.exI fun i9 =>
 (.call f_parsecore_Reader_apat [(.ptr 0 0)] .none [[(.slice 4 (l2) .no), (vI (i)), (vI (i1)), (vI (i2)), (vI (i3))]] ⟨(.ret (.agg [(vI (i4)), (vS (s)), (.slice 1 (l3) .no), (vI (i5)), (.slice 5 (l4) .no)])), .none, [[(.slice 4 (l5) .no), (vI (i6)), (vI (i7)), (vI (i8)), (vI (i9))]]⟩
 (.need true
 (.ret ⟨(.ret (.agg [(vI (8)), (vS ((⟨#[]⟩ : ByteArray))), (.slice 1 (l1) .no), (vI (0)), (.slice 5 [[(vI (i4)), (vS (s)), (.slice 1 (l3) .no), (vI (i5)), (.slice 5 (l4) .no)]] .no)])), .none, [[(.slice 4 (l5) .no), (vI (i6)), (vI (i7)), (vI (i8)), (vI (i9))]]⟩)))))))))))))
 (.exR fun l3 =>
 (.exI fun i4 =>
 (.exI fun i5 =>
 (.exI fun i6 =>
 (.exI fun i7 =>
 (.call f_parsecore_Reader_apat [(.ptr 0 0)] .none [[(.slice 4 (l2) .no), (vI (i)), (vI (i1)), (vI (i2)), (vI (i3))]] ⟨(.panic (.iface y_parsecore_failure (.agg []))), .none, [[(.slice 4 (l3) .no), (vI (i4)), (vI (i5)), (vI (i6)), (vI (i7))]]⟩
 (.need true
 (.ret ⟨(.panic (.iface y_parsecore_failure (.agg []))), .none, [[(.slice 4 (l3) .no), (vI (i4)), (vI (i5)), (vI (i6)), (vI (i7))]]⟩)))))))))
 (.need true
 (.ret ⟨(.ret (.agg [(vI (8)), (vS ((⟨#[]⟩ : ByteArray))), (.slice 1 (l1) .no), (vI (0)), (.slice 5 [] .no)])), .none, [[(.slice 4 (l2) .no), (vI (i)), (vI (i1)), (vI (i2)), (vI (i3))]]⟩)))))))))))))
 (.exR fun l1 =>
 (.exI fun i =>
 (.exI fun i1 =>
 (.exI fun i2 =>
 (.exI fun i3 =>
 (.call f_parsecore_Reader_path [(.ptr 0 0), (vB false), (vB true)] .none [[(.slice 4 (l) .no), (vI (z)), (vI (0)), (vI (0)), (vI (d))]] ⟨(.panic (.iface y_parsecore_failure (.agg []))), .none, [[(.slice 4 (l1) .no), (vI (i)), (vI (i1)), (vI (i2)), (vI (i3))]]⟩
 (.need true
 (.ret ⟨(.panic (.iface y_parsecore_failure (.agg []))), .none, [[(.slice 4 (l1) .no), (vI (i)), (vI (i1)), (vI (i2)), (vI (i3))]]⟩)))))))))))) := by kernel_rfl
theorem X_pbegins_eq (l : List (List AV)) (z : Int) (d : Int) : kt5 f_parsecore_Reader_begins [AV.ptr 0 0] [[AV.slice 4 l Own.no, vI z, vI 0, vI 0, vI d]] =
 (.exB fun b =>
 (.call f_parsecore_Reader_of [(.ptr 0 0), (vI (1))] .none [[(.slice 4 (l) .no), (vI (z)), (vI (0)), (vI (0)), (vI (d))]] ⟨(.ret (vB (b))), .none, [[(.slice 4 (l) .no), (vI (z)), (vI (0)), (vI (0)), (vI (d))]]⟩
 (.branch (b)
 (.need true
 (.ret ⟨(.ret (vB true)), .none, [[(.slice 4 (l) .no), (vI (z)), (vI (0)), (vI (0)), (vI (d))]]⟩))
 (.exB fun b1 =>
 (.call f_parsecore_Reader_of [(.ptr 0 0), (vI (2))] .none [[(.slice 4 (l) .no), (vI (z)), (vI (0)), (vI (0)), (vI (d))]] ⟨(.ret (vB (b1))), .none, [[(.slice 4 (l) .no), (vI (z)), (vI (0)), (vI (0)), (vI (d))]]⟩
 (.branch (b1)
 (.need true
 (.ret ⟨(.ret (vB true)), .none, [[(.slice 4 (l) .no), (vI (z)), (vI (0)), (vI (0)), (vI (d))]]⟩))
 (.exB fun b2 =>
 (.call f_parsecore_Reader_of [(.ptr 0 0), (vI (4))] .none [[(.slice 4 (l) .no), (vI (z)), (vI (0)), (vI (0)), (vI (d))]] ⟨(.ret (vB (b2))), .none, [[(.slice 4 (l) .no), (vI (z)), (vI (0)), (vI (0)), (vI (d))]]⟩
 (.branch (b2)
 (.need true
 (.ret ⟨(.ret (vB true)), .none, [[(.slice 4 (l) .no), (vI (z)), (vI (0)), (vI (0)), (vI (d))]]⟩))
 (.exB fun b3 =>
 (.call f_parsecore_Reader_Is [(.ptr 0 0), (vS ((⟨#[95]⟩ : ByteArray)))] .none [[(.slice 4 (l) .no), (vI (z)), (vI (0)), (vI (0)), (vI (d))]] ⟨(.ret (vB (b3))), .none, [[(.slice 4 (l) .no), (vI (z)), (vI (0)), (vI (0)), (vI (d))]]⟩
 (.branch (b3)
 (.need true
 (.ret ⟨(.ret (vB true)), .none, [[(.slice 4 (l) .no), (vI (z)), (vI (0)), (vI (0)), (vI (d))]]⟩))
 (.exB fun b4 =>
 (.call f_parsecore_Reader_Is [(.ptr 0 0), (vS ((⟨#[116, 114, 117, 101]⟩ : ByteArray)))] .none [[(.slice 4 (l) .no), (vI (z)), (vI (0)), (vI (0)), (vI (d))]] ⟨(.ret (vB (b4))), .none, [[(.slice 4 (l) .no), (vI (z)), (vI (0)), (vI (0)), (vI (d))]]⟩
 (.branch (b4)
 (.need true
 (.ret ⟨(.ret (vB true)), .none, [[(.slice 4 (l) .no), (vI (z)), (vI (0)), (vI (0)), (vI (d))]]⟩))
 (.exB fun b5 =>
 (.call f_parsecore_Reader_Is [(.ptr 0 0), (vS ((⟨#[102, 97, 108, 115, 101]⟩ : ByteArray)))] .none [[(.slice 4 (l) .no), (vI (z)), (vI (0)), (vI (0)), (vI (d))]] ⟨(.ret (vB (b5))), .none, [[(.slice 4 (l) .no), (vI (z)), (vI (0)), (vI (0)), (vI (d))]]⟩
 (.branch (b5)
 (.need true
 (.ret ⟨(.ret (vB true)), .none, [[(.slice 4 (l) .no), (vI (z)), (vI (0)), (vI (0)), (vI (d))]]⟩))
 (.exB fun b6 =>
 (.call f_parsecore_Reader_Is [(.ptr 0 0), (vS ((⟨#[40]⟩ : ByteArray)))] .none [[(.slice 4 (l) .no), (vI (z)), (vI (0)), (vI (0)), (vI (d))]] ⟨(.ret (vB (b6))), .none, [[(.slice 4 (l) .no), (vI (z)), (vI (0)), (vI (0)), (vI (d))]]⟩
 (.need true
 (.ret ⟨(.ret (vB (b6))), .none, [[(.slice 4 (l) .no), (vI (z)), (vI (0)), (vI (0)), (vI (d))]]⟩)))))))))))))))))))))) := by kernel_rfl
@[irreducible] noncomputable def X_papat (l : List (List AV)) (z : Int) (d : Int) : KT := kt5 f_parsecore_Reader_apat [AV.ptr 0 0] [[AV.slice 4 l Own.no, vI z, vI 0, vI 0, vI d]]
theorem X_papat_eq (l : List (List AV)) (z : Int) (d : Int) : kt5 f_parsecore_Reader_apat [AV.ptr 0 0] [[AV.slice 4 l Own.no, vI z, vI 0, vI 0, vI d]] =
 (.exB fun b =>
 (.exR fun l1 =>
 (.exI fun i =>
 (.exI fun i1 =>
 (.exI fun i2 =>
 (.exI fun i3 =>
 (.call f_parsecore_Reader_Take [(.ptr 0 0), (vS ((⟨#[95]⟩ : ByteArray)))] .none [[(.slice 4 (l) .no), (vI (z)), (vI (0)), (vI (0)), (vI (d))]] ⟨(.ret (vB (b))), .none, [[(.slice 4 (l1) .no), (vI (i)), (vI (i1)), (vI (i2)), (vI (i3))]]⟩
 (.branch (b)
 (.need true
 (.ret ⟨(.ret (.agg [(vI (1)), (vS ((⟨#[]⟩ : ByteArray))), (.slice 1 [] .no), (vI (0)), (.slice 5 [] .no)])), .none, [[(.slice 4 (l1) .no), (vI (i)), (vI (i1)), (vI (i2)), (vI (i3))]]⟩))
 (.exB fun b1 =>
 (.exR fun l2 =>
 (.exI fun i4 =>
 (.exI fun i5 =>
 (.exI fun i6 =>
 (.exI fun i7 =>
 (.call f_parsecore_Reader_Take [(.ptr 0 0), (vS ((⟨#[116, 114, 117, 101]⟩ : ByteArray)))] .none [[(.slice 4 (l1) .no), (vI (i)), (vI (i1)), (vI (i2)), (vI (i3))]] ⟨(.ret (vB (b1))), .none, [[(.slice 4 (l2) .no), (vI (i4)), (vI (i5)), (vI (i6)), (vI (i7))]]⟩
 (.branch (b1)
 (.need true
 (.ret ⟨(.ret (.agg [(vI (4)), (vS ((⟨#[]⟩ : ByteArray))), (.slice 1 [] .no), (vI (0)), (.slice 5 [] .no)])), .none, [[(.slice 4 (l2) .no), (vI (i4)), (vI (i5)), (vI (i6)), (vI (i7))]]⟩))
 (.exB fun b2 =>
 (.exR fun l3 =>
 (.exI fun i8 =>
 (.exI fun i9 =>
 (.exI fun i10 =>
 (.exI fun i11 =>
 (.call f_parsecore_Reader_Take [(.ptr 0 0), (vS ((⟨#[102, 97, 108, 115, 101]⟩ : ByteArray)))] .none [[(.slice 4 (l2) .no), (vI (i4)), (vI (i5)), (vI (i6)), (vI (i7))]] ⟨(.ret (vB (b2))), .none, [[(.slice 4 (l3) .no), (vI (i8)), (vI (i9)), (vI (i10)), (vI (i11))]]⟩
 (.branch (b2)
 (.need true
 (.ret ⟨(.ret (.agg [(vI (5)), (vS ((⟨#[]⟩ : ByteArray))), (.slice 1 [] .no), (vI (0)), (.slice 5 [] .no)])), .none, [[(.slice 4 (l3) .no), (vI (i8)), (vI (i9)), (vI (i10)), (vI (i11))]]⟩))
 (.exB fun b3 =>
 (.call f_parsecore_Reader_of [(.ptr 0 0), (vI (4))] .none [[(.slice 4 (l3) .no), (vI (i8)), (vI (i9)), (vI (i10)), (vI (i11))]] ⟨(.ret (vB (b3))), .none, [[(.slice 4 (l3) .no), (vI (i8)), (vI (i9)), (vI (i10)), (vI (i11))]]⟩
 (.branch (b3)
 (.exI fun i12 =>
 (.exS fun s =>
 (.exI fun i13 =>
 (.exI fun i14 =>
 (.row (l3) (0) [(vI (i12)), (vS (s)), (vI (i13)), (vI (i14))]
 (.need (decide ((l3 = [] ∨ (fun x => x.size) Pg.types[y_lex_Token] = 4) ∧ (0 : Int) ≤ 1 ∧ 1 ≤ (↑l3.length : Int) ∧ (↑l3.length : Int) ≤ (↑l3.length : Int)))
 (.need true
 (.ret ⟨(.ret (.agg [(vI (3)), (vS ((⟨#[]⟩ : ByteArray))), (.slice 1 [] .no), (vI (i13)), (.slice 5 [] .no)])), .none, [[(.slice 4 (List.drop (Int.toNat 1) l3) .no), (vI (i8)), (vI (i9)), (vI (i10)), (vI (i11))]]⟩))))))))
 (.exB fun b4 =>
 (.call f_parsecore_Reader_of [(.ptr 0 0), (vI (1))] .none [[(.slice 4 (l3) .no), (vI (i8)), (vI (i9)), (vI (i10)), (vI (i11))]] ⟨(.ret (vB (b4))), .none, [[(.slice 4 (l3) .no), (vI (i8)), (vI (i9)), (vI (i10)), (vI (i11))]]⟩
 (.branch (b4)
 (.alt
 (.exS fun s =>
 (.exR fun l4 =>
 (.exI fun i12 =>
 (.exI fun i13 =>
 (.exI fun i14 =>
 (.exI fun i15 =>
 (.call f_parsecore_Reader_taken [(.ptr 0 0), (vI (1))] .none [[(.slice 4 (l3) .no), (vI (i8)), (vI (i9)), (vI (i10)), (vI (i11))]] ⟨(.ret (vS (s))), .none, [[(.slice 4 (l4) .no), (vI (i12)), (vI (i13)), (vI (i14)), (vI (i15))]]⟩
 (.need true
 (.need true
 (.ret ⟨(.ret (.agg [(vI (2)), (vS (s)), (.slice 1 [] .no), (vI (0)), (.slice 5 [] .no)])), .none, [[(.slice 4 (l4) .no), (vI (i12)), (vI (i13)), (vI (i14)), (vI (i15))]]⟩))))))))))
 (.exR fun l4 =>
 (.exI fun i12 =>
 (.exI fun i13 =>
 (.exI fun i14 =>
 (.exI fun i15 =>
 (.call f_parsecore_Reader_taken [(.ptr 0 0), (vI (1))] .none [[(.slice 4 (l3) .no), (vI (i8)), (vI (i9)), (vI (i10)), (vI (i11))]] ⟨(.panic (.iface y_parsecore_failure (.agg []))), .none, [[(.slice 4 (l4) .no), (vI (i12)), (vI (i13)), (vI (i14)), (vI (i15))]]⟩
 (.need true
 (.need true
 (.ret ⟨(.panic (.iface y_parsecore_failure (.agg []))), .none, [[(.slice 4 (l4) .no), (vI (i12)), (vI (i13)), (vI (i14)), (vI (i15))]]⟩))))))))))
 (.exB fun b5 =>
 (.call f_parsecore_Reader_of [(.ptr 0 0), (vI (2))] .none [[(.slice 4 (l3) .no), (vI (i8)), (vI (i9)), (vI (i10)), (vI (i11))]] ⟨(.ret (vB (b5))), .none, [[(.slice 4 (l3) .no), (vI (i8)), (vI (i9)), (vI (i10)), (vI (i11))]]⟩
 (.branch (b5)
 (.alt
 (.exR fun l4 =>
 (.exB fun b6 =>
 (.exR fun l5 =>
 (.exI fun i12 =>
 (.exI fun i13 =>
 (.exI fun i14 =>
 (.exI fun i15 =>
 (.call f_parsecore_Reader_path [(.ptr 0 0), (vB false), (vB true)] .none [[(.slice 4 (l3) .no), (vI (i8)), (vI (i9)), (vI (i10)), (vI (i11))]] ⟨(.ret (.tuple [(.slice 1 (l4) .no), (vB (b6))])), .none, [[(.slice 4 (l5) .no), (vI (i12)), (vI (i13)), (vI (i14)), (vI (i15))]]⟩
 (.need true
 (.ret ⟨(.ret (.agg [(vI (8)), (vS ((⟨#[]⟩ : ByteArray))), (.slice 1 (l4) .no), (vI (0)), (.slice 5 [] .no)])), .none, [[(.slice 4 (l5) .no), (vI (i12)), (vI (i13)), (vI (i14)), (vI (i15))]]⟩))))))))))
 (.exR fun l4 =>
 (.exI fun i12 =>
 (.exI fun i13 =>
 (.exI fun i14 =>
 (.exI fun i15 =>
 (.call f_parsecore_Reader_path [(.ptr 0 0), (vB false), (vB true)] .none [[(.slice 4 (l3) .no), (vI (i8)), (vI (i9)), (vI (i10)), (vI (i11))]] ⟨(.panic (.iface y_parsecore_failure (.agg []))), .none, [[(.slice 4 (l4) .no), (vI (i12)), (vI (i13)), (vI (i14)), (vI (i15))]]⟩
 (.need true
 (.ret ⟨(.panic (.iface y_parsecore_failure (.agg []))), .none, [[(.slice 4 (l4) .no), (vI (i12)), (vI (i13)), (vI (i14)), (vI (i15))]]⟩)))))))))
 (.alt
 (.exR fun l4 =>
 (.exI fun i12 =>
 (.exI fun i13 =>
 (.exI fun i14 =>
 (.exI fun i15 =>
 (.call f_parsecore_Reader_Need [(.ptr 0 0), (vS ((⟨#[40]⟩ : ByteArray)))] .none [[(.slice 4 (l3) .no), (vI (i8)), (vI (i9)), (vI (i10)), (vI (i11))]] ⟨(.ret (.tuple [])), .none, [[(.slice 4 (l4) .no), (vI (i12)), (vI (i13)), (vI (i14)), (vI (i15))]]⟩
 (.exB fun b6 =>
 (.exR fun l5 =>
 (.exI fun i16 =>
 (.exI fun i17 =>
 (.exI fun i18 =>
 (.exI fun i19 =>
 (.call f_parsecore_Reader_Take [(.ptr 0 0), (vS ((⟨#[41]⟩ : ByteArray)))] .none [[(.slice 4 (l4) .no), (vI (i12)), (vI (i13)), (vI (i14)), (vI (i15))]] ⟨(.ret (vB (b6))), .none, [[(.slice 4 (l5) .no), (vI (i16)), (vI (i17)), (vI (i18)), (vI (i19))]]⟩
 (.branch (b6)
 (.need true
 (.ret ⟨(.ret (.agg [(vI (6)), (vS ((⟨#[]⟩ : ByteArray))), (.slice 1 [] .no), (vI (0)), (.slice 5 [] .no)])), .none, [[(.slice 4 (l5) .no), (vI (i16)), (vI (i17)), (vI (i18)), (vI (i19))]]⟩))
 (.alt
 (.exI fun i20 =>
 (.exS fun s =>
 (.exR fun l6 =>
 (.exI fun i21 =>
 (.exR fun l7 =>
 (.exR fun l8 =>
 (.exI fun i22 =>
 (.exI fun i23 =>
 (.exI fun i24 =>
 (.exI fun i25 =>
 (.call f_parsecore_Reader_Pat [(.ptr 0 0)] .none [[(.slice 4 (l5) .no), (vI (i16)), (vI (i17)), (vI (i18)), (vI (i19))]] ⟨(.ret (.agg [(vI (i20)), (vS (s)), (.slice 1 (l6) .no), (vI (i21)), (.slice 5 (l7) .no)])), .none, [[(.slice 4 (l8) .no), (vI (i22)), (vI (i23)), (vI (i24)), (vI (i25))]]⟩
 (.stage
 (.exB fun b7 =>
 (.exR fun l9 =>
 (.exI fun i26 =>
 (.exI fun i27 =>
 (.exI fun i28 =>
 (.exI fun i29 =>
 (.call f_parsecore_Reader_Take [(.ptr 0 0), (vS ((⟨#[44]⟩ : ByteArray)))] .none [[(.slice 4 (l8) .no), (vI (i22)), (vI (i23)), (vI (i24)), (vI (i25))]] ⟨(.ret (vB (b7))), .none, [[(.slice 4 (l9) .no), (vI (i26)), (vI (i27)), (vI (i28)), (vI (i29))]]⟩
 (.branch (b7)
 (.alt
 (.exI fun i30 =>
 (.exS fun s1 =>
 (.exR fun l10 =>
 (.exI fun i31 =>
 (.exR fun l11 =>
 (.exR fun l12 =>
 (.exI fun i32 =>
 (.exI fun i33 =>
 (.exI fun i34 =>
 (.exI fun i35 =>
 (.call f_parsecore_Reader_Pat [(.ptr 0 0)] .none [[(.slice 4 (l9) .no), (vI (i26)), (vI (i27)), (vI (i28)), (vI (i29))]] ⟨(.ret (.agg [(vI (i30)), (vS (s1)), (.slice 1 (l10) .no), (vI (i31)), (.slice 5 (l11) .no)])), .none, [[(.slice 4 (l12) .no), (vI (i32)), (vI (i33)), (vI (i34)), (vI (i35))]]⟩
 (.done ⟨tm2 72 [(0, (.ptr 0 0)), (2, (.lp 2 0 0)), (6, (.lp 6 0 0))], lm2 72 [(2, (0, [(vI (0)), (vS ((⟨#[]⟩ : ByteArray))), (.slice 0 [] .full), (vI (0)), (.slice 0 [] .full)])), (6, (0, [(vI (7)), (vS ((⟨#[]⟩ : ByteArray))), (.slice 0 [] .full), (vI (0)), (.slice 5 [[(vI (i20)), (vS (s)), (.slice 1 (l6) .no), (vI (i21)), (.slice 5 (l7) .no)], [(vI (i30)), (vS (s1)), (.slice 1 (l10) .no), (vI (i31)), (.slice 5 (l11) .no)]] .full)]))], ⟨[[(.slice 4 (l12) .no), (vI (i32)), (vI (i33)), (vI (i34)), (vI (i35))]], [], .none, 1⟩⟩))))))))))))
 (.exR fun l10 =>
 (.exI fun i30 =>
 (.exI fun i31 =>
 (.exI fun i32 =>
 (.exI fun i33 =>
 (.call f_parsecore_Reader_Pat [(.ptr 0 0)] .none [[(.slice 4 (l9) .no), (vI (i26)), (vI (i27)), (vI (i28)), (vI (i29))]] ⟨(.panic (.iface y_parsecore_failure (.agg []))), .none, [[(.slice 4 (l10) .no), (vI (i30)), (vI (i31)), (vI (i32)), (vI (i33))]]⟩
 (.out (.need true
 (.ret ⟨(.panic (.iface y_parsecore_failure (.agg []))), .none, [[(.slice 4 (l10) .no), (vI (i30)), (vI (i31)), (vI (i32)), (vI (i33))]]⟩))))))))))
 (.done ⟨tm2 72 [(0, (.ptr 0 0)), (2, (.lp 2 0 0)), (6, (.lp 6 0 0))], lm2 72 [(2, (0, [(vI (0)), (vS ((⟨#[]⟩ : ByteArray))), (.slice 0 [] .full), (vI (0)), (.slice 0 [] .full)])), (6, (0, [(vI (i20)), (vS (s)), (.slice 1 (l6) .no), (vI (i21)), (.slice 5 (l7) .no)]))], ⟨[[(.slice 4 (l9) .no), (vI (i26)), (vI (i27)), (vI (i28)), (vI (i29))]], [], .none, 1⟩⟩)))))))))
 ((((((((((((((((((((((((((((((((((((((((((((X_papat l z d).B b).R l1).I i).I i1).I i2).I i3).T.F.B b1).R l2).I i4).I i5).I i6).I i7).T.F.B b2).R l3).I i8).I i9).I i10).I i11).T.F.B b3).T.F.B b4).T.F.B b5).T.F.T.R l4).I i12).I i13).I i14).I i15).T.B b6).R l5).I i16).I i17).I i18).I i19).T.F.T.I i20).S s).R l6).I i21).R l7).R l8).I i22).I i23).I i24).I i25).T.K)))))))))))))
 (.exR fun l6 =>
 (.exI fun i20 =>
 (.exI fun i21 =>
 (.exI fun i22 =>
 (.exI fun i23 =>
 (.call f_parsecore_Reader_Pat [(.ptr 0 0)] .none [[(.slice 4 (l5) .no), (vI (i16)), (vI (i17)), (vI (i18)), (vI (i19))]] ⟨(.panic (.iface y_parsecore_failure (.agg []))), .none, [[(.slice 4 (l6) .no), (vI (i20)), (vI (i21)), (vI (i22)), (vI (i23))]]⟩
 (.need true
 (.ret ⟨(.panic (.iface y_parsecore_failure (.agg []))), .none, [[(.slice 4 (l6) .no), (vI (i20)), (vI (i21)), (vI (i22)), (vI (i23))]]⟩)))))))))))))))))))))))
 (.exR fun l4 =>
 (.exI fun i12 =>
 (.exI fun i13 =>
 (.exI fun i14 =>
 (.exI fun i15 =>
 (.call f_parsecore_Reader_Need [(.ptr 0 0), (vS ((⟨#[40]⟩ : ByteArray)))] .none [[(.slice 4 (l3) .no), (vI (i8)), (vI (i9)), (vI (i10)), (vI (i11))]] ⟨(.panic (.iface y_parsecore_failure (.agg []))), .none, [[(.slice 4 (l4) .no), (vI (i12)), (vI (i13)), (vI (i14)), (vI (i15))]]⟩
 (.need true
 (.ret ⟨(.panic (.iface y_parsecore_failure (.agg []))), .none, [[(.slice 4 (l4) .no), (vI (i12)), (vI (i13)), (vI (i14)), (vI (i15))]]⟩)))))))))))))))))))))))))))))))))))))))))) := by kernel_rfl
@[irreducible] noncomputable def X_papats1 (l : List (List AV)) (z : Int) (d : Int) (b : Bool) (l1 : List (List AV)) (i : Int) (i1 : Int) (i2 : Int) (i3 : Int) (b1 : Bool) (l2 : List (List AV)) (i4 : Int) (i5 : Int) (i6 : Int) (i7 : Int) (b2 : Bool) (l3 : List (List AV)) (i8 : Int) (i9 : Int) (i10 : Int) (i11 : Int) (b3 : Bool) (b4 : Bool) (b5 : Bool) (l4 : List (List AV)) (i12 : Int) (i13 : Int) (i14 : Int) (i15 : Int) (b6 : Bool) (l5 : List (List AV)) (i16 : Int) (i17 : Int) (i18 : Int) (i19 : Int) (i20 : Int) (s : ByteArray) (l6 : List (List AV)) (i21 : Int) (l7 : List (List AV)) (l8 : List (List AV)) (i22 : Int) (i23 : Int) (i24 : Int) (i25 : Int) (q1x0 : Int) (q1x1 : ByteArray) (q1x2 : Nat) (q1x3 : List (List AV)) (q1x4 : Own) (q1x5 : Int) (q1x6 : List (List AV)) (q1x7 : Own) (q1x8 : List (List AV)) (q1x9 : Int) (q1x10 : Int) (q1x11 : Int) (q1x12 : Int) : KT := (((((((((((((((((((((((((((((((((((((((((((X_papat l z d).B b).R l1).I i).I i1).I i2).I i3).T.F.B b1).R l2).I i4).I i5).I i6).I i7).T.F.B b2).R l3).I i8).I i9).I i10).I i11).T.F.B b3).T.F.B b4).T.F.B b5).T.F.T.R l4).I i12).I i13).I i14).I i15).T.B b6).R l5).I i16).I i17).I i18).I i19).T.F.T.I i20).S s).R l6).I i21).R l7).R l8).I i22).I i23).I i24).I i25).T.K ⟨tm2 72 [(0, (.ptr 0 0)), (2, (.lp 2 0 0)), (6, (.lp 6 0 0))], lm2 72 [(2, (0, [(vI (0)), (vS ((⟨#[]⟩ : ByteArray))), (.slice 0 [] .full), (vI (0)), (.slice 0 [] .full)])), (6, (0, [(vI (q1x0)), (vS (q1x1)), (.slice (q1x2) (q1x3) (q1x4)), (vI (q1x5)), (.slice 5 (q1x6) (q1x7))]))], ⟨[[(.slice 4 (q1x8) .no), (vI (q1x9)), (vI (q1x10)), (vI (q1x11)), (vI (q1x12))]], [], .none, 1⟩⟩
theorem X_papats1_eq (l : List (List AV)) (z : Int) (d : Int) (b : Bool) (l1 : List (List AV)) (i : Int) (i1 : Int) (i2 : Int) (i3 : Int) (b1 : Bool) (l2 : List (List AV)) (i4 : Int) (i5 : Int) (i6 : Int) (i7 : Int) (b2 : Bool) (l3 : List (List AV)) (i8 : Int) (i9 : Int) (i10 : Int) (i11 : Int) (b3 : Bool) (b4 : Bool) (b5 : Bool) (l4 : List (List AV)) (i12 : Int) (i13 : Int) (i14 : Int) (i15 : Int) (b6 : Bool) (l5 : List (List AV)) (i16 : Int) (i17 : Int) (i18 : Int) (i19 : Int) (i20 : Int) (s : ByteArray) (l6 : List (List AV)) (i21 : Int) (l7 : List (List AV)) (l8 : List (List AV)) (i22 : Int) (i23 : Int) (i24 : Int) (i25 : Int) (q1x0 : Int) (q1x1 : ByteArray) (q1x2 : Nat) (q1x3 : List (List AV)) (q1x4 : Own) (q1x5 : Int) (q1x6 : List (List AV)) (q1x7 : Own) (q1x8 : List (List AV)) (q1x9 : Int) (q1x10 : Int) (q1x11 : Int) (q1x12 : Int) : (((((((((((((((((((((((((((((((((((((((((((X_papat l z d).B b).R l1).I i).I i1).I i2).I i3).T.F.B b1).R l2).I i4).I i5).I i6).I i7).T.F.B b2).R l3).I i8).I i9).I i10).I i11).T.F.B b3).T.F.B b4).T.F.B b5).T.F.T.R l4).I i12).I i13).I i14).I i15).T.B b6).R l5).I i16).I i17).I i18).I i19).T.F.T.I i20).S s).R l6).I i21).R l7).R l8).I i22).I i23).I i24).I i25).T.K ⟨tm2 72 [(0, (.ptr 0 0)), (2, (.lp 2 0 0)), (6, (.lp 6 0 0))], lm2 72 [(2, (0, [(vI (0)), (vS ((⟨#[]⟩ : ByteArray))), (.slice 0 [] .full), (vI (0)), (.slice 0 [] .full)])), (6, (0, [(vI (q1x0)), (vS (q1x1)), (.slice (q1x2) (q1x3) (q1x4)), (vI (q1x5)), (.slice 5 (q1x6) (q1x7))]))], ⟨[[(.slice 4 (q1x8) .no), (vI (q1x9)), (vI (q1x10)), (vI (q1x11)), (vI (q1x12))]], [], .none, 1⟩⟩ =
 (.alt
 (.exR fun l9 =>
 (.exI fun i26 =>
 (.exI fun i27 =>
 (.exI fun i28 =>
 (.exI fun i29 =>
 (.call f_parsecore_Reader_Need [(.ptr 0 0), (vS ((⟨#[41]⟩ : ByteArray)))] .none [[(.slice 4 (q1x8) .no), (vI (q1x9)), (vI (q1x10)), (vI (q1x11)), (vI (q1x12))]] ⟨(.ret (.tuple [])), .none, [[(.slice 4 (l9) .no), (vI (i26)), (vI (i27)), (vI (i28)), (vI (i29))]]⟩
 (.need true
 (.ret ⟨(.ret (.agg [(vI (q1x0)), (vS (q1x1)), (normS Pg (y_s_string : TypeId) (AV.slice q1x2 q1x3 q1x4).dis.dis.dis), (vI (q1x5)), (normS Pg (y_s_api_Pat : TypeId) (AV.slice 5 q1x6 q1x7).dis.dis.dis)])), .none, [[(.slice 4 (l9) .no), (vI (i26)), (vI (i27)), (vI (i28)), (vI (i29))]]⟩))))))))
 (.exR fun l9 =>
 (.exI fun i26 =>
 (.exI fun i27 =>
 (.exI fun i28 =>
 (.exI fun i29 =>
 (.call f_parsecore_Reader_Need [(.ptr 0 0), (vS ((⟨#[41]⟩ : ByteArray)))] .none [[(.slice 4 (q1x8) .no), (vI (q1x9)), (vI (q1x10)), (vI (q1x11)), (vI (q1x12))]] ⟨(.panic (.iface y_parsecore_failure (.agg []))), .none, [[(.slice 4 (l9) .no), (vI (i26)), (vI (i27)), (vI (i28)), (vI (i29))]]⟩
 (.need true
 (.ret ⟨(.panic (.iface y_parsecore_failure (.agg []))), .none, [[(.slice 4 (l9) .no), (vI (i26)), (vI (i27)), (vI (i28)), (vI (i29))]]⟩))))))))) := by kernel_rfl
-- STAGE X_papats1: told for any #[q1x0, q1x1, q1x2, q1x3, q1x4, q1x5, q1x6, q1x7, q1x8, q1x9, q1x10, q1x11, q1x12]
theorem X_rPat_eq (l : List (List AV)) (z : Int) (a : Int) (e : Int) (b : Int) : kt5 f_waferref05_Reader_Pat [AV.ptr 0 0] [[AV.slice 4 l Own.no, vI z, vI a, vI e, vI b]] =
 (.exI fun i =>
 (.exS fun s =>
 (.exR fun l1 =>
 (.exI fun i1 =>
 (.exR fun l2 =>
 (.exR fun l3 =>
 (.exI fun i2 =>
 (.exI fun i3 =>
 (.exI fun i4 =>
 (.exI fun i5 =>
 (.call f_waferref05_Reader_pat [(.ptr 0 0)] .none [[(.slice 4 (l) .no), (vI (z)), (vI (a)), (vI (e)), (vI (b))]] ⟨(.ret (.agg [(vI (i)), (vS (s)), (.slice 1 (l1) .no), (vI (i1)), (.slice 5 (l2) .no)])), .none, [[(.slice 4 (l3) .no), (vI (i2)), (vI (i3)), (vI (i4)), (vI (i5))]]⟩
 (.branch (i4 != 0)
 (.need true
 (.ret ⟨(.ret (.agg [(vI (0)), (vS ((⟨#[]⟩ : ByteArray))), (.slice 1 [] .no), (vI (0)), (.slice 5 [] .no)])), .none, [[(.slice 4 (l3) .no), (vI (i2)), (vI (i3)), (vI (i4)), (vI (i5))]]⟩))
 (.need true
 (.ret ⟨(.ret (.agg [(vI (i)), (vS (s)), (.slice 1 (l1) .no), (vI (i1)), (.slice 5 (l2) .no)])), .none, [[(.slice 4 (l3) .no), (vI (i2)), (vI (i3)), (vI (i4)), (vI (i5))]]⟩)))))))))))))) := by kernel_rfl
theorem X_rpat_eq (l : List (List AV)) (z : Int) (a : Int) (e : Int) (b : Int) : kt5 f_waferref05_Reader_pat [AV.ptr 0 0] [[AV.slice 4 l Own.no, vI z, vI a, vI e, vI b]] =
 (.exB fun b1 =>
 (.call f_waferref05_Reader_kind [(.ptr 0 0), (vI (2))] .none [[(.slice 4 (l) .no), (vI (z)), (vI (a)), (vI (e)), (vI (b))]] ⟨(.ret (vB (b1))), .none, [[(.slice 4 (l) .no), (vI (z)), (vI (a)), (vI (e)), (vI (b))]]⟩
 (.branch (!b1)
 (.exI fun i =>
 (.exS fun s =>
 (.exR fun l1 =>
 (.exI fun i1 =>
 (.exR fun l2 =>
 (.exR fun l3 =>
 (.exI fun i2 =>
 (.exI fun i3 =>
 (.exI fun i4 =>
 (.exI fun i5 =>
 (.call f_waferref05_Reader_atomPat [(.ptr 0 0)] .none [[(.slice 4 (l) .no), (vI (z)), (vI (a)), (vI (e)), (vI (b))]] ⟨(.ret (.agg [(vI (i)), (vS (s)), (.slice 1 (l1) .no), (vI (i1)), (.slice 5 (l2) .no)])), .none, [[(.slice 4 (l3) .no), (vI (i2)), (vI (i3)), (vI (i4)), (vI (i5))]]⟩
 (.need true
 (.ret ⟨(.ret (.agg [(vI (i)), (vS (s)), (.slice 1 (l1) .no), (vI (i1)), (.slice 5 (l2) .no)])), .none, [[(.slice 4 (l3) .no), (vI (i2)), (vI (i3)), (vI (i4)), (vI (i5))]]⟩)))))))))))))
 (.exR fun l1 =>
 (.exR fun l2 =>
 (.exI fun i =>
 (.exI fun i1 =>
 (.exI fun i2 =>
 (.exI fun i3 =>
 (.call f_waferref05_Reader_Path [(.ptr 0 0), (vB false)] .none [[(.slice 4 (l) .no), (vI (z)), (vI (a)), (vI (e)), (vI (b))]] ⟨(.ret (.slice 1 (l1) .no)), .none, [[(.slice 4 (l2) .no), (vI (i)), (vI (i1)), (vI (i2)), (vI (i3))]]⟩
 (.exB fun b2 =>
 (.call f_waferref05_Reader_beginsPat [(.ptr 0 0)] .none [[(.slice 4 (l2) .no), (vI (i)), (vI (i1)), (vI (i2)), (vI (i3))]] ⟨(.ret (vB (b2))), .none, [[(.slice 4 (l2) .no), (vI (i)), (vI (i1)), (vI (i2)), (vI (i3))]]⟩
 (.branch (b2)
 (.exI fun i4 =>
 (.exS fun s =>
 (.exR fun l3 =>
 (.exI fun i5 =>
 (.exR fun l4 =>
 (.exR fun l5 =>
 (.exI fun i6 =>
 (.exI fun i7 =>
 (.exI fun i8 =>
 (.exI fun i9 =>
 (.call f_waferref05_Reader_atomPat [(.ptr 0 0)] .none [[(.slice 4 (l2) .no), (vI (i)), (vI (i1)), (vI (i2)), (vI (i3))]] ⟨(.ret (.agg [(vI (i4)), (vS (s)), (.slice 1 (l3) .no), (vI (i5)), (.slice 5 (l4) .no)])), .none, [[(.slice 4 (l5) .no), (vI (i6)), (vI (i7)), (vI (i8)), (vI (i9))]]⟩
 (.need true
 (.ret ⟨(.ret (.agg [(vI (8)), (vS ((⟨#[]⟩ : ByteArray))), (.slice 1 (l1) .no), (vI (0)), (.slice 5 [[(vI (i4)), (vS (s)), (.slice 1 (l3) .no), (vI (i5)), (.slice 5 (l4) .no)]] .no)])), .none, [[(.slice 4 (l5) .no), (vI (i6)), (vI (i7)), (vI (i8)), (vI (i9))]]⟩)))))))))))))
 (.need true
 (.ret ⟨(.ret (.agg [(vI (8)), (vS ((⟨#[]⟩ : ByteArray))), (.slice 1 (l1) .no), (vI (0)), (.slice 5 [] .no)])), .none, [[(.slice 4 (l2) .no), (vI (i)), (vI (i1)), (vI (i2)), (vI (i3))]]⟩))))))))))))))) := by kernel_rfl
theorem X_rbeginsPat_eq (l : List (List AV)) (z : Int) (a : Int) (e : Int) (b : Int) : kt5 f_waferref05_Reader_beginsPat [AV.ptr 0 0] [[AV.slice 4 l Own.no, vI z, vI a, vI e, vI b]] =
 (.exB fun b1 =>
 (.call f_waferref05_Reader_Is [(.ptr 0 0), (vS ((⟨#[95]⟩ : ByteArray)))] .none [[(.slice 4 (l) .no), (vI (z)), (vI (a)), (vI (e)), (vI (b))]] ⟨(.ret (vB (b1))), .none, [[(.slice 4 (l) .no), (vI (z)), (vI (a)), (vI (e)), (vI (b))]]⟩
 (.branch (b1)
 (.need true
 (.ret ⟨(.ret (vB true)), .none, [[(.slice 4 (l) .no), (vI (z)), (vI (a)), (vI (e)), (vI (b))]]⟩))
 (.exB fun b2 =>
 (.call f_waferref05_Reader_Is [(.ptr 0 0), (vS ((⟨#[116, 114, 117, 101]⟩ : ByteArray)))] .none [[(.slice 4 (l) .no), (vI (z)), (vI (a)), (vI (e)), (vI (b))]] ⟨(.ret (vB (b2))), .none, [[(.slice 4 (l) .no), (vI (z)), (vI (a)), (vI (e)), (vI (b))]]⟩
 (.branch (b2)
 (.need true
 (.ret ⟨(.ret (vB true)), .none, [[(.slice 4 (l) .no), (vI (z)), (vI (a)), (vI (e)), (vI (b))]]⟩))
 (.exB fun b3 =>
 (.call f_waferref05_Reader_Is [(.ptr 0 0), (vS ((⟨#[102, 97, 108, 115, 101]⟩ : ByteArray)))] .none [[(.slice 4 (l) .no), (vI (z)), (vI (a)), (vI (e)), (vI (b))]] ⟨(.ret (vB (b3))), .none, [[(.slice 4 (l) .no), (vI (z)), (vI (a)), (vI (e)), (vI (b))]]⟩
 (.branch (b3)
 (.need true
 (.ret ⟨(.ret (vB true)), .none, [[(.slice 4 (l) .no), (vI (z)), (vI (a)), (vI (e)), (vI (b))]]⟩))
 (.exB fun b4 =>
 (.call f_waferref05_Reader_Is [(.ptr 0 0), (vS ((⟨#[40]⟩ : ByteArray)))] .none [[(.slice 4 (l) .no), (vI (z)), (vI (a)), (vI (e)), (vI (b))]] ⟨(.ret (vB (b4))), .none, [[(.slice 4 (l) .no), (vI (z)), (vI (a)), (vI (e)), (vI (b))]]⟩
 (.branch (b4)
 (.need true
 (.ret ⟨(.ret (vB true)), .none, [[(.slice 4 (l) .no), (vI (z)), (vI (a)), (vI (e)), (vI (b))]]⟩))
 (.exB fun b5 =>
 (.call f_waferref05_Reader_kind [(.ptr 0 0), (vI (1))] .none [[(.slice 4 (l) .no), (vI (z)), (vI (a)), (vI (e)), (vI (b))]] ⟨(.ret (vB (b5))), .none, [[(.slice 4 (l) .no), (vI (z)), (vI (a)), (vI (e)), (vI (b))]]⟩
 (.branch (b5)
 (.need true
 (.ret ⟨(.ret (vB true)), .none, [[(.slice 4 (l) .no), (vI (z)), (vI (a)), (vI (e)), (vI (b))]]⟩))
 (.exB fun b6 =>
 (.call f_waferref05_Reader_kind [(.ptr 0 0), (vI (2))] .none [[(.slice 4 (l) .no), (vI (z)), (vI (a)), (vI (e)), (vI (b))]] ⟨(.ret (vB (b6))), .none, [[(.slice 4 (l) .no), (vI (z)), (vI (a)), (vI (e)), (vI (b))]]⟩
 (.branch (b6)
 (.need true
 (.ret ⟨(.ret (vB true)), .none, [[(.slice 4 (l) .no), (vI (z)), (vI (a)), (vI (e)), (vI (b))]]⟩))
 (.exB fun b7 =>
 (.call f_waferref05_Reader_kind [(.ptr 0 0), (vI (4))] .none [[(.slice 4 (l) .no), (vI (z)), (vI (a)), (vI (e)), (vI (b))]] ⟨(.ret (vB (b7))), .none, [[(.slice 4 (l) .no), (vI (z)), (vI (a)), (vI (e)), (vI (b))]]⟩
 (.need true
 (.ret ⟨(.ret (vB (b7))), .none, [[(.slice 4 (l) .no), (vI (z)), (vI (a)), (vI (e)), (vI (b))]]⟩)))))))))))))))))))))) := by kernel_rfl
@[irreducible] noncomputable def X_ratomPat (l : List (List AV)) (z : Int) (a : Int) (e : Int) (b : Int) : KT := kt5 f_waferref05_Reader_atomPat [AV.ptr 0 0] [[AV.slice 4 l Own.no, vI z, vI a, vI e, vI b]]
theorem X_ratomPat_eq (l : List (List AV)) (z : Int) (a : Int) (e : Int) (b : Int) : kt5 f_waferref05_Reader_atomPat [AV.ptr 0 0] [[AV.slice 4 l Own.no, vI z, vI a, vI e, vI b]] =
 (.exB fun b1 =>
 (.exR fun l1 =>
 (.exI fun i =>
 (.exI fun i1 =>
 (.exI fun i2 =>
 (.exI fun i3 =>
 (.call f_waferref05_Reader_Take [(.ptr 0 0), (vS ((⟨#[95]⟩ : ByteArray)))] .none [[(.slice 4 (l) .no), (vI (z)), (vI (a)), (vI (e)), (vI (b))]] ⟨(.ret (vB (b1))), .none, [[(.slice 4 (l1) .no), (vI (i)), (vI (i1)), (vI (i2)), (vI (i3))]]⟩
 (.branch (b1)
 (.need true
 (.ret ⟨(.ret (.agg [(vI (1)), (vS ((⟨#[]⟩ : ByteArray))), (.slice 1 [] .no), (vI (0)), (.slice 5 [] .no)])), .none, [[(.slice 4 (l1) .no), (vI (i)), (vI (i1)), (vI (i2)), (vI (i3))]]⟩))
 (.exB fun b2 =>
 (.exR fun l2 =>
 (.exI fun i4 =>
 (.exI fun i5 =>
 (.exI fun i6 =>
 (.exI fun i7 =>
 (.call f_waferref05_Reader_Take [(.ptr 0 0), (vS ((⟨#[116, 114, 117, 101]⟩ : ByteArray)))] .none [[(.slice 4 (l1) .no), (vI (i)), (vI (i1)), (vI (i2)), (vI (i3))]] ⟨(.ret (vB (b2))), .none, [[(.slice 4 (l2) .no), (vI (i4)), (vI (i5)), (vI (i6)), (vI (i7))]]⟩
 (.branch (b2)
 (.need true
 (.ret ⟨(.ret (.agg [(vI (4)), (vS ((⟨#[]⟩ : ByteArray))), (.slice 1 [] .no), (vI (0)), (.slice 5 [] .no)])), .none, [[(.slice 4 (l2) .no), (vI (i4)), (vI (i5)), (vI (i6)), (vI (i7))]]⟩))
 (.exB fun b3 =>
 (.exR fun l3 =>
 (.exI fun i8 =>
 (.exI fun i9 =>
 (.exI fun i10 =>
 (.exI fun i11 =>
 (.call f_waferref05_Reader_Take [(.ptr 0 0), (vS ((⟨#[102, 97, 108, 115, 101]⟩ : ByteArray)))] .none [[(.slice 4 (l2) .no), (vI (i4)), (vI (i5)), (vI (i6)), (vI (i7))]] ⟨(.ret (vB (b3))), .none, [[(.slice 4 (l3) .no), (vI (i8)), (vI (i9)), (vI (i10)), (vI (i11))]]⟩
 (.branch (b3)
 (.need true
 (.ret ⟨(.ret (.agg [(vI (5)), (vS ((⟨#[]⟩ : ByteArray))), (.slice 1 [] .no), (vI (0)), (.slice 5 [] .no)])), .none, [[(.slice 4 (l3) .no), (vI (i8)), (vI (i9)), (vI (i10)), (vI (i11))]]⟩))
 (.exB fun b4 =>
 (.call f_waferref05_Reader_kind [(.ptr 0 0), (vI (4))] .none [[(.slice 4 (l3) .no), (vI (i8)), (vI (i9)), (vI (i10)), (vI (i11))]] ⟨(.ret (vB (b4))), .none, [[(.slice 4 (l3) .no), (vI (i8)), (vI (i9)), (vI (i10)), (vI (i11))]]⟩
 (.branch (b4)
 (.exI fun i12 =>
 (.exS fun s =>
 (.exI fun i13 =>
 (.exI fun i14 =>
 (.row (l3) (IntKind.i64.wrap (IntKind.i64.wrap (i9 + 1) - 1)) [(vI (i12)), (vS (s)), (vI (i13)), (vI (i14))]
 (.need true
 (.ret ⟨(.ret (.agg [(vI (3)), (vS ((⟨#[]⟩ : ByteArray))), (.slice 1 [] .no), (vI (i13)), (.slice 5 [] .no)])), .none, [[(.slice 4 (l3) .no), (vI (i8)), (vI (IntKind.i64.wrap (i9 + 1))), (vI (i10)), (vI (i11))]]⟩)))))))
 (.exB fun b5 =>
 (.call f_waferref05_Reader_kind [(.ptr 0 0), (vI (1))] .none [[(.slice 4 (l3) .no), (vI (i8)), (vI (i9)), (vI (i10)), (vI (i11))]] ⟨(.ret (vB (b5))), .none, [[(.slice 4 (l3) .no), (vI (i8)), (vI (i9)), (vI (i10)), (vI (i11))]]⟩
 (.branch (b5)
 (.exS fun s =>
 (.exR fun l4 =>
 (.exI fun i12 =>
 (.exI fun i13 =>
 (.exI fun i14 =>
 (.exI fun i15 =>
 (.call f_waferref05_Reader_name [(.ptr 0 0), (vI (1))] .none [[(.slice 4 (l3) .no), (vI (i8)), (vI (i9)), (vI (i10)), (vI (i11))]] ⟨(.ret (vS (s))), .none, [[(.slice 4 (l4) .no), (vI (i12)), (vI (i13)), (vI (i14)), (vI (i15))]]⟩
 (.need true
 (.need true
 (.ret ⟨(.ret (.agg [(vI (2)), (vS (s)), (.slice 1 [] .no), (vI (0)), (.slice 5 [] .no)])), .none, [[(.slice 4 (l4) .no), (vI (i12)), (vI (i13)), (vI (i14)), (vI (i15))]]⟩))))))))))
 (.exB fun b6 =>
 (.call f_waferref05_Reader_kind [(.ptr 0 0), (vI (2))] .none [[(.slice 4 (l3) .no), (vI (i8)), (vI (i9)), (vI (i10)), (vI (i11))]] ⟨(.ret (vB (b6))), .none, [[(.slice 4 (l3) .no), (vI (i8)), (vI (i9)), (vI (i10)), (vI (i11))]]⟩
 (.branch (b6)
 (.exR fun l4 =>
 (.exR fun l5 =>
 (.exI fun i12 =>
 (.exI fun i13 =>
 (.exI fun i14 =>
 (.exI fun i15 =>
 (.call f_waferref05_Reader_Path [(.ptr 0 0), (vB false)] .none [[(.slice 4 (l3) .no), (vI (i8)), (vI (i9)), (vI (i10)), (vI (i11))]] ⟨(.ret (.slice 1 (l4) .no)), .none, [[(.slice 4 (l5) .no), (vI (i12)), (vI (i13)), (vI (i14)), (vI (i15))]]⟩
 (.need true
 (.ret ⟨(.ret (.agg [(vI (8)), (vS ((⟨#[]⟩ : ByteArray))), (.slice 1 (l4) .no), (vI (0)), (.slice 5 [] .no)])), .none, [[(.slice 4 (l5) .no), (vI (i12)), (vI (i13)), (vI (i14)), (vI (i15))]]⟩)))))))))
 (.exR fun l4 =>
 (.exI fun i12 =>
 (.exI fun i13 =>
 (.exI fun i14 =>
 (.exI fun i15 =>
 (.call f_waferref05_Reader_Need [(.ptr 0 0), (vS ((⟨#[40]⟩ : ByteArray)))] .none [[(.slice 4 (l3) .no), (vI (i8)), (vI (i9)), (vI (i10)), (vI (i11))]] ⟨(.ret (.tuple [])), .none, [[(.slice 4 (l4) .no), (vI (i12)), (vI (i13)), (vI (i14)), (vI (i15))]]⟩
 (.exB fun b7 =>
 (.exR fun l5 =>
 (.exI fun i16 =>
 (.exI fun i17 =>
 (.exI fun i18 =>
 (.exI fun i19 =>
 (.call f_waferref05_Reader_Take [(.ptr 0 0), (vS ((⟨#[41]⟩ : ByteArray)))] .none [[(.slice 4 (l4) .no), (vI (i12)), (vI (i13)), (vI (i14)), (vI (i15))]] ⟨(.ret (vB (b7))), .none, [[(.slice 4 (l5) .no), (vI (i16)), (vI (i17)), (vI (i18)), (vI (i19))]]⟩
 (.branch (b7)
 (.need true
 (.ret ⟨(.ret (.agg [(vI (6)), (vS ((⟨#[]⟩ : ByteArray))), (.slice 1 [] .no), (vI (0)), (.slice 5 [] .no)])), .none, [[(.slice 4 (l5) .no), (vI (i16)), (vI (i17)), (vI (i18)), (vI (i19))]]⟩))
 (.branch (i18 != 0)
 (.need true
 (.ret ⟨(.ret (.agg [(vI (0)), (vS ((⟨#[]⟩ : ByteArray))), (.slice 1 [] .no), (vI (0)), (.slice 5 [] .no)])), .none, [[(.slice 4 (l5) .no), (vI (i16)), (vI (i17)), (vI (i18)), (vI (i19))]]⟩))
 (.exI fun i20 =>
 (.exS fun s =>
 (.exR fun l6 =>
 (.exI fun i21 =>
 (.exR fun l7 =>
 (.exR fun l8 =>
 (.exI fun i22 =>
 (.exI fun i23 =>
 (.exI fun i24 =>
 (.exI fun i25 =>
 (.call f_waferref05_Reader_pat [(.ptr 0 0)] .none [[(.slice 4 (l5) .no), (vI (i16)), (vI (i17)), (vI (i18)), (vI (i19))]] ⟨(.ret (.agg [(vI (i20)), (vS (s)), (.slice 1 (l6) .no), (vI (i21)), (.slice 5 (l7) .no)])), .none, [[(.slice 4 (l8) .no), (vI (i22)), (vI (i23)), (vI (i24)), (vI (i25))]]⟩
 (.stage
 (.exB fun b8 =>
 (.exR fun l9 =>
 (.exI fun i26 =>
 (.exI fun i27 =>
 (.exI fun i28 =>
 (.exI fun i29 =>
 (.call f_waferref05_Reader_Take [(.ptr 0 0), (vS ((⟨#[44]⟩ : ByteArray)))] .none [[(.slice 4 (l8) .no), (vI (i22)), (vI (i23)), (vI (i24)), (vI (i25))]] ⟨(.ret (vB (b8))), .none, [[(.slice 4 (l9) .no), (vI (i26)), (vI (i27)), (vI (i28)), (vI (i29))]]⟩
 (.branch (b8)
 (.exI fun i30 =>
 (.exS fun s1 =>
 (.exR fun l10 =>
 (.exI fun i31 =>
 (.exR fun l11 =>
 (.exR fun l12 =>
 (.exI fun i32 =>
 (.exI fun i33 =>
 (.exI fun i34 =>
 (.exI fun i35 =>
 (.call f_waferref05_Reader_pat [(.ptr 0 0)] .none [[(.slice 4 (l9) .no), (vI (i26)), (vI (i27)), (vI (i28)), (vI (i29))]] ⟨(.ret (.agg [(vI (i30)), (vS (s1)), (.slice 1 (l10) .no), (vI (i31)), (.slice 5 (l11) .no)])), .none, [[(.slice 4 (l12) .no), (vI (i32)), (vI (i33)), (vI (i34)), (vI (i35))]]⟩
 (.done ⟨tm2 74 [(0, (.ptr 0 0)), (2, (.lp 2 0 0)), (3, (.lp 3 0 0))], lm2 74 [(2, (0, [(vI (0)), (vS ((⟨#[]⟩ : ByteArray))), (.slice 0 [] .full), (vI (0)), (.slice 0 [] .full)])), (3, (0, [(vI (7)), (vS ((⟨#[]⟩ : ByteArray))), (.slice 0 [] .full), (vI (0)), (.slice 5 [[(vI (i20)), (vS (s)), (.slice 1 (l6) .no), (vI (i21)), (.slice 5 (l7) .no)], [(vI (i30)), (vS (s1)), (.slice 1 (l10) .no), (vI (i31)), (.slice 5 (l11) .no)]] .full)]))], ⟨[[(.slice 4 (l12) .no), (vI (i32)), (vI (i33)), (vI (i34)), (vI (i35))]], [], .none, 1⟩⟩))))))))))))
 (.done ⟨tm2 74 [(0, (.ptr 0 0)), (2, (.lp 2 0 0)), (3, (.lp 3 0 0))], lm2 74 [(2, (0, [(vI (0)), (vS ((⟨#[]⟩ : ByteArray))), (.slice 0 [] .full), (vI (0)), (.slice 0 [] .full)])), (3, (0, [(vI (i20)), (vS (s)), (.slice 1 (l6) .no), (vI (i21)), (.slice 5 (l7) .no)]))], ⟨[[(.slice 4 (l9) .no), (vI (i26)), (vI (i27)), (vI (i28)), (vI (i29))]], [], .none, 1⟩⟩)))))))))
 ((((((((((((((((((((((((((((((((((((((((((((X_ratomPat l z a e b).B b1).R l1).I i).I i1).I i2).I i3).T.F.B b2).R l2).I i4).I i5).I i6).I i7).T.F.B b3).R l3).I i8).I i9).I i10).I i11).T.F.B b4).T.F.B b5).T.F.B b6).T.F.R l4).I i12).I i13).I i14).I i15).T.B b7).R l5).I i16).I i17).I i18).I i19).T.F.F.I i20).S s).R l6).I i21).R l7).R l8).I i22).I i23).I i24).I i25).T.K))))))))))))))))))))))))))))))))))))))))))))))))))))))))))))) := by kernel_rfl
@[irreducible] noncomputable def X_ratomPats1 (l : List (List AV)) (z : Int) (a : Int) (e : Int) (b : Int) (b1 : Bool) (l1 : List (List AV)) (i : Int) (i1 : Int) (i2 : Int) (i3 : Int) (b2 : Bool) (l2 : List (List AV)) (i4 : Int) (i5 : Int) (i6 : Int) (i7 : Int) (b3 : Bool) (l3 : List (List AV)) (i8 : Int) (i9 : Int) (i10 : Int) (i11 : Int) (b4 : Bool) (b5 : Bool) (b6 : Bool) (l4 : List (List AV)) (i12 : Int) (i13 : Int) (i14 : Int) (i15 : Int) (b7 : Bool) (l5 : List (List AV)) (i16 : Int) (i17 : Int) (i18 : Int) (i19 : Int) (i20 : Int) (s : ByteArray) (l6 : List (List AV)) (i21 : Int) (l7 : List (List AV)) (l8 : List (List AV)) (i22 : Int) (i23 : Int) (i24 : Int) (i25 : Int) (q1x0 : Int) (q1x1 : ByteArray) (q1x2 : Nat) (q1x3 : List (List AV)) (q1x4 : Own) (q1x5 : Int) (q1x6 : List (List AV)) (q1x7 : Own) (q1x8 : List (List AV)) (q1x9 : Int) (q1x10 : Int) (q1x11 : Int) (q1x12 : Int) : KT := (((((((((((((((((((((((((((((((((((((((((((X_ratomPat l z a e b).B b1).R l1).I i).I i1).I i2).I i3).T.F.B b2).R l2).I i4).I i5).I i6).I i7).T.F.B b3).R l3).I i8).I i9).I i10).I i11).T.F.B b4).T.F.B b5).T.F.B b6).T.F.R l4).I i12).I i13).I i14).I i15).T.B b7).R l5).I i16).I i17).I i18).I i19).T.F.F.I i20).S s).R l6).I i21).R l7).R l8).I i22).I i23).I i24).I i25).T.K ⟨tm2 74 [(0, (.ptr 0 0)), (2, (.lp 2 0 0)), (3, (.lp 3 0 0))], lm2 74 [(2, (0, [(vI (0)), (vS ((⟨#[]⟩ : ByteArray))), (.slice 0 [] .full), (vI (0)), (.slice 0 [] .full)])), (3, (0, [(vI (q1x0)), (vS (q1x1)), (.slice (q1x2) (q1x3) (q1x4)), (vI (q1x5)), (.slice 5 (q1x6) (q1x7))]))], ⟨[[(.slice 4 (q1x8) .no), (vI (q1x9)), (vI (q1x10)), (vI (q1x11)), (vI (q1x12))]], [], .none, 1⟩⟩
theorem X_ratomPats1_eq (l : List (List AV)) (z : Int) (a : Int) (e : Int) (b : Int) (b1 : Bool) (l1 : List (List AV)) (i : Int) (i1 : Int) (i2 : Int) (i3 : Int) (b2 : Bool) (l2 : List (List AV)) (i4 : Int) (i5 : Int) (i6 : Int) (i7 : Int) (b3 : Bool) (l3 : List (List AV)) (i8 : Int) (i9 : Int) (i10 : Int) (i11 : Int) (b4 : Bool) (b5 : Bool) (b6 : Bool) (l4 : List (List AV)) (i12 : Int) (i13 : Int) (i14 : Int) (i15 : Int) (b7 : Bool) (l5 : List (List AV)) (i16 : Int) (i17 : Int) (i18 : Int) (i19 : Int) (i20 : Int) (s : ByteArray) (l6 : List (List AV)) (i21 : Int) (l7 : List (List AV)) (l8 : List (List AV)) (i22 : Int) (i23 : Int) (i24 : Int) (i25 : Int) (q1x0 : Int) (q1x1 : ByteArray) (q1x2 : Nat) (q1x3 : List (List AV)) (q1x4 : Own) (q1x5 : Int) (q1x6 : List (List AV)) (q1x7 : Own) (q1x8 : List (List AV)) (q1x9 : Int) (q1x10 : Int) (q1x11 : Int) (q1x12 : Int) : (((((((((((((((((((((((((((((((((((((((((((X_ratomPat l z a e b).B b1).R l1).I i).I i1).I i2).I i3).T.F.B b2).R l2).I i4).I i5).I i6).I i7).T.F.B b3).R l3).I i8).I i9).I i10).I i11).T.F.B b4).T.F.B b5).T.F.B b6).T.F.R l4).I i12).I i13).I i14).I i15).T.B b7).R l5).I i16).I i17).I i18).I i19).T.F.F.I i20).S s).R l6).I i21).R l7).R l8).I i22).I i23).I i24).I i25).T.K ⟨tm2 74 [(0, (.ptr 0 0)), (2, (.lp 2 0 0)), (3, (.lp 3 0 0))], lm2 74 [(2, (0, [(vI (0)), (vS ((⟨#[]⟩ : ByteArray))), (.slice 0 [] .full), (vI (0)), (.slice 0 [] .full)])), (3, (0, [(vI (q1x0)), (vS (q1x1)), (.slice (q1x2) (q1x3) (q1x4)), (vI (q1x5)), (.slice 5 (q1x6) (q1x7))]))], ⟨[[(.slice 4 (q1x8) .no), (vI (q1x9)), (vI (q1x10)), (vI (q1x11)), (vI (q1x12))]], [], .none, 1⟩⟩ =
 (.exR fun l9 =>
 (.exI fun i26 =>
 (.exI fun i27 =>
 (.exI fun i28 =>
 (.exI fun i29 =>
 (.call f_waferref05_Reader_Need [(.ptr 0 0), (vS ((⟨#[41]⟩ : ByteArray)))] .none [[(.slice 4 (q1x8) .no), (vI (q1x9)), (vI (q1x10)), (vI (q1x11)), (vI (q1x12))]] ⟨(.ret (.tuple [])), .none, [[(.slice 4 (l9) .no), (vI (i26)), (vI (i27)), (vI (i28)), (vI (i29))]]⟩
 (.need true
 (.ret ⟨(.ret (.agg [(vI (q1x0)), (vS (q1x1)), (normS Pg (y_s_string : TypeId) (AV.slice q1x2 q1x3 q1x4).dis.dis.dis), (vI (q1x5)), (normS Pg (y_s_api_Pat : TypeId) (AV.slice 5 q1x6 q1x7).dis.dis.dis)])), .none, [[(.slice 4 (l9) .no), (vI (i26)), (vI (i27)), (vI (i28)), (vI (i29))]]⟩)))))))) := by kernel_rfl
-- STAGE X_ratomPats1: told for any #[q1x0, q1x1, q1x2, q1x3, q1x4, q1x5, q1x6, q1x7, q1x8, q1x9, q1x10, q1x11, q1x12]
end Go.Proofs
end

section
/- PARSE: the program's reader: patterns -/
set_option linter.unusedVariables false
set_option linter.unusedSimpArgs false
set_option maxRecDepth 100000
open Go Go.Eng Go.Pa
open Go.Lx (T Tok)
namespace Go.Proofs
def patK : Pat → Int
  | .any => 1
  | .var _ => 2
  | .int _ => 3
  | .tru => 4
  | .fls => 5
  | .unit => 6
  | .pair _ _ => 7
  | .con _ => 8
  | .conA _ _ => 8
def patN : Pat → ByteArray
  | .var n => bs n
  | _ => bs []
def patP : Pat → List (List AV)
  | .con p => pRows p
  | .conA p _ => pRows p
  | _ => []
def patM : Pat → Int
  | .int v => v
  | _ => 0
def patQ : Pat → List (List AV)
  | .pair a b => [avs a.row, avs b.row]
  | .conA _ a => [avs a.row]
  | _ => []
theorem pat_row (p : Pat) : avs p.row = [vI (patK p), vS (patN p), .slice 1 (patP p) .no, vI (patM p), .slice 5 (patQ p) .no] := by
  cases p with
  | con p => simp only [Pat.row, patR, avs, CT.av, cp, avss_path, patK, patN, patP, patM, patQ]; rfl
  | conA p a => simp only [Pat.row, patR, avs, CT.av, cp, avss_path, patK, patN, patP, patM, patQ]; rfl
  | _ => rfl
abbrev patV (t : Pat) : AV := .agg (avs t.row)
theorem patV_eq (t : Pat) : .agg [vI (patK t), vS (patN t), .slice 1 (patP t) .no, vI (patM t), .slice 5 (patQ t) .no] = patV t := by rw [patV, pat_row]
theorem low_pat (n : Nat) (t : Pat) : lowss n (patP t) = true ∧ lowss n (patQ t) = true := by
  have := low_avs n t.row
  rw [pat_row] at this
  simp only [lows, AV.low, Bool.and_eq_true] at this
  exact ⟨this.2.2.1, this.2.2.2.2.1⟩
theorem ren_patV (ρ : Nat → Nat) (t : Pat) : (patV t).ren ρ = patV t := by
  simp only [patV, AV.ren, ren_avs]
abbrev pat0 : AV := .agg [vI 0, vS ⟨#[]⟩, .slice 1 [] .no, vI 0, .slice 5 [] .no]
section
variable {QD : List (St → Prop)} {QR : CRes → Prop}
variable {z d : Nat} {g : FuncId} {args : List AV} {H : Heap} {k2 : List (List AV) → Int → Int → Int → Int → KT}
theorem wp_pat {F : Res Pat} {k1 : Int → ByteArray → List (List AV) → Int → List (List AV) → List (List AV) → Int → Int → Int → Int → KT} (c : RC patV F z d g args H)
    (hok : ∀ t l, F = .ok t l → Gd l → (k1 (patK t) (patN t) (patP t) (patM t) (patQ t) (tks l) z 0 0 d).wp Pg cfg0 evp QD QR) (hno : ∀ e p l, F = .no e p → e ≠ 0 → (k2 (tks l) z e p d).wp Pg cfg0 evp QD QR) :
    (KT.alt (.exI fun i => .exS fun s => .exR fun l1 => .exI fun i1 => .exR fun l2 => .exR fun m => .exI fun a => .exI fun e => .exI fun p => .exI fun d' => .call g args .none H ⟨.ret (.agg [vI i, vS s, .slice 1 l1 .no, vI i1, .slice 5 l2 .no]), .none, [hp5 m a e p d']⟩ (k1 i s l1 i1 l2 m a e p d'))
      (.exR fun m => .exI fun a => .exI fun e => .exI fun p => .exI fun d' => .call g args .none H ⟨.panic failV, .none, [hp5 m a e p d']⟩ (k2 m a e p d'))).wp Pg cfg0 evp QD QR := by
  obtain ⟨r, h1, h2⟩ := c
  cases hF : F with
  | ok a l =>
    rw [hF] at h2
    simp only [Rq, patV, pat_row] at h2
    obtain ⟨hg, rfl⟩ := h2; exact .inl ⟨_, _, _, _, _, _, _, _, _, _, h1, hok a l hF hg⟩
  | no e p => rw [hF] at h2; obtain ⟨he, l, rfl⟩ := h2; exact .inr ⟨_, _, _, _, _, h1, hno e p l hF he⟩
end
section
variable {QD : List (St → Prop)} {QR : CRes → Prop}
theorem wp_boolB {g : FuncId} {args : List AV} {H : Heap} {t f : Bool → KT} {b : Bool} (c : evp g args .none H = some ⟨.ret (vB b), .none, H⟩) (h1 : b = true → (t true).wp Pg cfg0 evp QD QR) (h2 : b = false → (f false).wp Pg cfg0 evp QD QR) :
    (KT.exB fun b => .call g args .none H ⟨.ret (vB b), .none, H⟩ (.branch b (t b) (f b))).wp Pg cfg0 evp QD QR := by
  cases b with
  | true => exact ⟨true, c, fun _ => h1 rfl, fun h => (by cases h)⟩
  | false => exact ⟨false, c, fun h => (by cases h), fun _ => h2 rfl⟩
theorem wp_takeB {g : FuncId} {args : List AV} {H : Heap} {l : List Tok} {z d : Nat} {w : ByteArray} {t f : Bool → List (List AV) → Int → Int → Int → Int → KT}
    (c : evp g args .none H = some ⟨.ret (vB (isW (tx w) l)), .none, rH (if isW (tx w) l then l.tail else l) z d⟩)
    (h1 : isW (tx w) l = true → (t true (tks l.tail) z 0 0 d).wp Pg cfg0 evp QD QR) (h2 : isW (tx w) l = false → (f false (tks l) z 0 0 d).wp Pg cfg0 evp QD QR) :
    (KT.exB fun b => .exR fun m => .exI fun a => .exI fun e => .exI fun p => .exI fun d' => .call g args .none H ⟨.ret (vB b), .none, [hp5 m a e p d']⟩ (.branch b (t b m a e p d') (f b m a e p d'))).wp Pg cfg0 evp QD QR := by
  cases hb : isW (tx w) l with
  | true => rw [hb] at c; exact ⟨true, _, _, _, _, _, c, fun _ => h1 hb, fun h => (by cases h)⟩
  | false => rw [hb] at c; exact ⟨false, _, _, _, _, _, c, fun h => (by cases h), fun _ => h2 hb⟩
end
theorem c_pbegins (l : List Tok) (z d : Nat) : evp f_parsecore_Reader_begins [.ptr 0 0] .none (rH l z d) = some ⟨.ret (vB (begP l)), .none, rH l z d⟩ := by
  refine kt5_is (wp_eq2 (X_pbegins_eq ..) ?_)
  refine ⟨_, c_pof l z d 1, wp_if2 (fun h1 => ⟨rfl, retH (congrArg vB ?_)⟩) fun h1 => ⟨_, c_pof l z d 2, wp_if2 (fun h2 => ⟨rfl, retH (congrArg vB ?_)⟩) fun h2 => ⟨_, c_pof l z d 4, wp_if2 (fun h3 => ⟨rfl, retH (congrArg vB ?_)⟩) fun h3 => ⟨_, c_pIs l z d _, wp_if2 (fun h4 => ⟨rfl, retH (congrArg vB ?_)⟩) fun h4 => ⟨_, c_pIs l z d _, wp_if2 (fun h5 => ⟨rfl, retH (congrArg vB ?_)⟩) fun h5 => ⟨_, c_pIs l z d _, wp_if2 (fun h6 => ⟨rfl, retH (congrArg vB ?_)⟩) fun h6 => ⟨_, c_pIs l z d _, ⟨rfl, retH (congrArg vB ?_)⟩⟩⟩⟩⟩⟩⟩⟩
  · simp [begP, h1]
  · simp [begP, h2]
  · simp [begP, h3]
  · have h4 : isW wAny l = true := h4
    simp [begP, h4]
  · have h5 : isW wTrue l = true := h5
    simp [begP, h5]
  · have h6 : isW wFalse l = true := h6
    simp [begP, h6]
  · have h4 : isW wAny l = false := h4
    have h5 : isW wTrue l = false := h5
    have h6 : isW wFalse l = false := h6
    simp only [begP, h1, h2, h3, h4, h5, h6, Bool.false_or]
    rfl
/-- The patterns' rules, by fuel. -/
structure PP (z n : Nat) : Prop where
  pat : ∀ {l : List Tok} {d : Nat}, Gd l → 0 < d → 8 * l.length + 2 ≤ n → d + n < BIG → RC patV (pPat z n l) z d f_parsecore_Reader_pat [.ptr 0 0] (rH l z d)
  ap : ∀ {l : List Tok} {d : Nat}, Gd l → 0 < d → 8 * l.length + 1 ≤ n → d + n < BIG → RC patV (pAp z n l) z d f_parsecore_Reader_apat [.ptr 0 0] (rH l z d)
theorem pat_guard {z d : Nat} {l : List Tok} {F : Res Pat} (hB : d < BIG) (c : RC patV F z (d + 1) f_parsecore_Reader_pat [.ptr 0 0] (rH l z (d + 1))) : RM' patV pat0 F z d f_parsecore_Reader_Pat [.ptr 0 0] (rH l z d) := by
  have h1 := wrapU hB
  have h2 := wrapD hB
  refine kt5_ex (wp_eq2 (X_pPat_eq ..) (wp_stage (wp_if2 nf fun _ => wp_if2 (fun h => absurd h (by decide)) fun _ => wp_done (wp_eq2 (X_pPats1_eq ..) ?_))))
  rw [h1]
  rcases rc_lift (K := [[vI 0, vS ⟨#[]⟩, .slice 0 [] .full, vI 0, .slice 0 [] .full]]) c inv_ptr (fun a k => ren_patV _ a) rfl with ⟨t, m, hF, hg, c⟩ | ⟨e, p, m, hF, he, c⟩
  · simp only [patV, pat_row] at c
    refine .inl ⟨_, _, _, _, _, _, _, _, _, _, _, _, [], _, [], c, wp_if2 (fun _ => ⟨(low_pat 1 t).1, (low_pat 1 t).2, lows_tks .., rfl, ?_⟩) tf⟩
    rw [h2]; exact rm_ok hF hg (patV_eq t)
  · refine .inr ⟨_, _, _, _, _, _, _, [], _, [], c, wp_if2 nf fun _ => wp_if2 (fun _ => wp_if2 (fun h => ⟨lows_tks .., rfl, ?_⟩) (fun h => ⟨rfl, rfl, lows_tks .., rfl, ?_⟩)) tf⟩
    · rw [h2] at h ⊢; exact rm_no (decpos h) hF he
    · rw [h2] at h ⊢; exact rm_no0 (dec0 h) hF he
theorem PP.Pat {z n : Nat} (h : PP z n) {l : List Tok} {d : Nat} (hg : Gd l) (hn : 8 * l.length + 2 ≤ n) (hB : d + n + 1 < BIG) : RM' patV pat0 (pPat z n l) z d f_parsecore_Reader_Pat [.ptr 0 0] (rH l z d) :=
  pat_guard (by omega) (h.pat hg (Nat.succ_pos d) hn (by omega))
theorem norm_ss (l : List (List AV)) : normS Pg (y_s_string : TypeId) (AV.slice 1 l .no).dis.dis.dis = .slice 1 l .no := by kernel_rfl
theorem norm_ss0 : normS Pg (y_s_string : TypeId) (AV.slice 0 [] .full).dis.dis.dis = .slice 1 [] .no := by kernel_rfl
theorem norm_sp (l : List (List AV)) : normS Pg (y_s_api_Pat : TypeId) (AV.slice 5 l .no).dis.dis.dis = .slice 5 l .no := by kernel_rfl
theorem norm_sp2 (a b : List AV) : normS Pg (y_s_api_Pat : TypeId) (AV.slice 5 [a, b] .full).dis.dis.dis = .slice 5 [a, b] .no := by kernel_rfl
theorem pp_all (z : Nat) : ∀ n, PP z n := by
  intro n
  induction n with
  | zero => exact ⟨fun _ _ h => by omega, fun _ _ h => by omega⟩
  | succ n I =>
  constructor
  · -- pat
    intro l d hg hd hn hB
    generalize hX : pPat z (n + 1) l = X
    rw [pPat] at hX
    refine rc_of (wp_eq2 (X_ppat_eq ..) ⟨_, c_pof l z d 2, wp_if2 (fun h2 => ?_) (fun h2 => ?_)⟩)
    · have h2' : ofK 2 l = false := by rw [Bool.not_eq_true'] at h2; exact h2
      rw [if_neg (by rw [h2']; decide)] at hX
      exact wp_pat (I.ap hg hd (by omega) (by omega)) (fun t r hF hg1 => ⟨rfl, rq_ok (a := t) (l := r) (by rw [← hX, hF]) hg1 (patV_eq t)⟩) (fun e p r hF he => ⟨rfl, rq_no (by rw [← hX, hF]) he⟩)
    · have h2' : ofK 2 l = true := by rw [Bool.not_eq_false'] at h2; exact h2
      rw [if_pos h2'] at hX
      refine wp_path (c_ppath (b := false) (b1 := true) hg hd (by omega)) (fun x r hF hg1 => ?_) (fun e p r hF he => ⟨rfl, rq_no (by rw [← hX, hF]; rfl) he⟩)
      rw [hF] at hX
      simp only [Res.bind] at hX
      have hl : r.length < l.length := path_len _ (Nat.le_refl _) hF
      refine ⟨_, c_pbegins r z d, wp_if2 (fun hb => ?_) (fun hb => ⟨rfl, rq_ok (a := .con x.1) (l := r) (by rw [← hX, if_neg (by rw [hb]; decide)]) hg1 (by rw [← patV_eq]; rfl)⟩)⟩
      rw [if_pos hb] at hX
      refine wp_pat (I.ap hg1 hd (by omega) (by omega)) (fun t r2 hF2 hg2 => ⟨rfl, rq_ok (a := .conA x.1 t) (l := r2) (by rw [← hX, hF2]) hg2 ?_⟩) (fun e p r2 hF2 he => ⟨rfl, rq_no (by rw [← hX, hF2]) he⟩)
      rw [← patV_eq (.conA x.1 t), show patQ (.conA x.1 t) = [avs t.row] from rfl, pat_row t]; rfl
  · -- apat
    intro l d hg hd hn hB
    generalize hX : pAp z (n + 1) l = X
    rw [pAp] at hX
    refine rc_of (wp_eq2 (X_papat_eq ..) ?_)
    refine wp_takeB (c_pTake l z d _) (fun hw => by exact ⟨rfl, rq_ok (a := .any) (l := l.tail) (by rw [← hX]; exact if_pos hw) hg.tail rfl⟩) (fun hw1 => ?_)
    have hw1 : isW wAny l = false := hw1
    rw [if_neg (by rw [hw1]; decide)] at hX
    refine wp_takeB (c_pTake l z d _) (fun hw => by exact ⟨rfl, rq_ok (a := .tru) (l := l.tail) (by rw [← hX]; exact if_pos hw) hg.tail rfl⟩) (fun hw2 => ?_)
    have hw2 : isW wTrue l = false := hw2
    rw [if_neg (by rw [hw2]; decide)] at hX
    refine wp_takeB (c_pTake l z d _) (fun hw => by exact ⟨rfl, rq_ok (a := .fls) (l := l.tail) (by rw [← hX]; exact if_pos hw) hg.tail rfl⟩) (fun hw3 => ?_)
    have hw3 : isW wFalse l = false := hw3
    rw [if_neg (by rw [hw3]; decide)] at hX
    refine wp_boolB (c_pof l z d 4) (fun h4 => ?_) (fun h4 => ?_)
    · rw [if_pos h4] at hX
      cases l with
      | nil => cases h4
      | cons t r => exact ⟨_, _, _, _, row0, cut1, rfl, rq_ok (a := .int (num (t :: r))) (l := r) (by rw [← hX]; rfl) hg.tail rfl⟩
    rw [if_neg (by rw [h4]; decide)] at hX
    refine wp_boolB (c_pof l z d 1) (fun h5 => ?_) (fun h5 => ?_)
    · rw [if_pos h5] at hX
      cases l with
      | nil => cases h5
      | cons t r =>
        have hk : (t.kind == 1) = true := h5
        have htk : taken z 1 (t :: r) = .ok t.text r := by simp only [taken, hk, if_true]
        refine wp_str (c_ptaken (k := 1) hg hd (by omega)) (fun u r2 hF hg2 => ?_) (fun e p r2 hF he => by rw [htk] at hF; cases hF)
        rw [htk] at hF
        injection hF with e1 e2
        subst e1 e2
        exact ⟨rfl, rfl, rq_ok (a := .var t.text) (l := r) (by rw [← hX]; rfl) hg2 rfl⟩
    rw [if_neg (by rw [h5]; decide)] at hX
    refine wp_boolB (c_pof l z d 2) (fun h6 => ?_) (fun h6 => ?_)
    · rw [if_pos h6] at hX
      exact wp_path (c_ppath (b := false) (b1 := true) hg hd (by omega)) (fun x r hF hg1 => ⟨rfl, rq_ok (a := .con x.1) (l := r) (by rw [← hX, hF]; rfl) hg1 (by rw [← patV_eq]; rfl)⟩) (fun e p r hF he => ⟨rfl, rq_no (by rw [← hX, hF]; rfl) he⟩)
    rw [if_neg (by rw [h6]; decide)] at hX
    refine wp_unit (c_pNeed hg hd (by omega)) (fun u r hF hg1 => ?_) (fun e p r hF he => ⟨rfl, rq_no (by have hF' : need z wOpen l = .no e p := hF; rw [← hX, hF']; rfl) he⟩)
    have hF' : need z wOpen l = .ok u r := hF
    have hl := need_len hF'
    rw [hF'] at hX
    simp only [Res.bind] at hX
    refine wp_takeB (c_pTake r z d _) (fun hw => by exact ⟨rfl, rq_ok (a := .unit) (l := r.tail) (by rw [← hX]; exact if_pos hw) hg1.tail rfl⟩) (fun hw4 => ?_)
    have hw4 : isW wClose r = false := hw4
    rw [if_neg (by rw [hw4]; decide)] at hX
    refine wp_pat (rm_pos hd (I.Pat hg1 (by omega) (by omega))) (fun p r1 hF1 hg2 => wp_stage ?_) (fun e p r1 hF1 he => ⟨rfl, rq_no (by rw [← hX, hF1]) he⟩)
    rw [hF1] at hX
    simp only at hX
    have hl1 := (lenP z n).pat _ _ hF1
    refine wp_takeB (c_pTake r1 z d _) (fun hw => ?_) (fun hw => ?_)
    · have hw5 : isW wComma r1 = true := hw
      rw [if_pos hw5] at hX
      have hl2 := isW_len hw5
      refine wp_pat (rm_pos hd (I.Pat hg2.tail (by omega) (by omega))) (fun q r2 hF2 hg3 => wp_done (wp_eq2 (X_papats1_eq ..) ?_)) (fun e p r2 hF2 he => wp_out ⟨rfl, rq_no (by rw [← hX, hF2]) he⟩)
      rw [hF2] at hX
      simp only at hX
      refine wp_unit (c_pNeed hg3 hd (by omega)) (fun u2 r3 hF3 hg4 => ⟨rfl, rq_ok (a := .pair p q) (l := r3) ?_ hg4 ?_⟩) (fun e p r3 hF3 he => ⟨rfl, rq_no ?_ he⟩)
      · have hF3' : need z wClose r2 = .ok u2 r3 := hF3
        rw [← hX, hF3']
      · rw [norm_ss0, norm_sp2, ← patV_eq (.pair p q)]
        rw [show patQ (.pair p q) = [avs p.row, avs q.row] from rfl, pat_row p, pat_row q]; rfl
      · have hF3' : need z wClose r2 = .no e p := hF3
        rw [← hX, hF3']
    · have hw5 : isW wComma r1 = false := hw
      rw [if_neg (by rw [hw5]; decide)] at hX
      refine wp_done (wp_eq2 (X_papats1_eq ..) (wp_unit (c_pNeed hg2 hd (by omega)) (fun u2 r3 hF3 hg4 => ⟨rfl, rq_ok (a := p) (l := r3) ?_ hg4 ?_⟩) (fun e p r3 hF3 he => ⟨rfl, rq_no ?_ he⟩)))
      · have hF3' : need z wClose r1 = .ok u2 r3 := hF3
        rw [← hX, hF3']
      · rw [norm_ss, norm_sp, ← patV_eq p]
      · have hF3' : need z wClose r1 = .no e p := hF3
        rw [← hX, hF3']
end Go.Proofs
end

section
/- TREES, printed by kt.py out of z12.txt -/
open Go Go.Eng
namespace Go.Proofs
set_option linter.unusedVariables false
set_option maxRecDepth 100000
@[irreducible] noncomputable def Y_rpatsSame (p q : List (List AV)) : KT := (kt6 f_waferref04_patsSame [.slice 5 p .no, .slice 5 q .no] []).F
@[irreducible] noncomputable def Y_rpatsSamef (p q : List (List AV)) : KT := (kt6 f_waferref04_patsSame [.slice 5 p .full, .slice 5 q .full] []).F
@[irreducible] noncomputable def Y_rpatsDepth (p : List (List AV)) : KT := (kt6 f_waferref04_patsDepth [.slice 5 p .no] [])
@[irreducible] noncomputable def Y_rpatsDepthf (p : List (List AV)) : KT := (kt6 f_waferref04_patsDepth [.slice 5 p .full] [])
@[irreducible] noncomputable def Y_rpats (p : List (List AV)) : KT := (kt6 f_waferref04_pats [.slice 5 p .no] [])
theorem X_RightPat_eq (k : Int) (n : ByteArray) (p : List (List AV)) (m : Int) (q : List (List AV)) : (ktc6 f_tree_RightPat [AV.agg [vI k, vS n, AV.slice 1 p Own.no, vI m, AV.slice 5 q Own.no]] []).prune (PH.of 56339622453) =
 (.exI fun i =>
 (.exI fun i1 =>
 (.exI fun i2 =>
 (.call f_tree_walker_pats [(.ptr 0 0), (.slice 5 [[(vI (k)), (vS (n)), (.slice 1 (p) .no), (vI (m)), (.slice 5 (q) .no)]] .full)] .none [[(vI (0)), (vI (0)), (vI (0))]] ⟨(.ret (.ptr 0 0)), .none, [[(vI (i)), (vI (i1)), (vI (i2))]]⟩
 (.branch (decide (i2 > 100))
 (.ret ⟨(.ret (vI (4))), .none, []⟩)
 (.alt
 (.call f_tree_pat [(.agg [(vI (k)), (vS (n)), (.slice 1 (p) .no), (vI (m)), (.slice 5 (q) .no)])] .none [[(vI (i)), (vI (i1)), (vI (i2))], [(vI (0))]] ⟨(.ret (.tuple [])), .none, [[(vI (i)), (vI (i1)), (vI (i2))], [(vI (0))]]⟩
 (.ret ⟨(.ret (vI (0))), .none, []⟩))
 (.exI fun i3 =>
 (.call f_tree_pat [(.agg [(vI (k)), (vS (n)), (.slice 1 (p) .no), (vI (m)), (.slice 5 (q) .no)])] .none [[(vI (i)), (vI (i1)), (vI (i2))], [(vI (0))]] ⟨(.panic (.iface y_tree_wrong (vI (i3)))), .none, [[(vI (i)), (vI (i1)), (vI (i2))], [(vI (0))]]⟩
 (.ret ⟨(.ret (vI (i3))), .none, []⟩))))))))) := by kernel_rfl
theorem X_rRightPat_eq (k : Int) (n : ByteArray) (p : List (List AV)) (m : Int) (q : List (List AV)) : (kt6 f_waferref04_RightPat [AV.agg [vI k, vS n, AV.slice 1 p Own.no, vI m, AV.slice 5 q Own.no]] []).prune (PH.of 3125) =
 (.exI fun i =>
 (.call f_waferref04_patsDepth [(.slice 5 [[(vI (k)), (vS (n)), (.slice 1 (p) .no), (vI (m)), (.slice 5 (q) .no)]] .full)] .none [] ⟨(.ret (vI (i))), .none, []⟩
 (.branch (decide (i > 100))
 (.ret ⟨(.ret (vI (4))), .none, []⟩)
 (.exI fun i1 =>
 (.call f_waferref04_pat [(.agg [(vI (k)), (vS (n)), (.slice 1 (p) .no), (vI (m)), (.slice 5 (q) .no)])] .none [] ⟨(.ret (vI (i1))), .none, []⟩
 (.ret ⟨(.ret (vI (i1))), .none, []⟩)))))) := by kernel_rfl
theorem X_rSamePat_eq (k : Int) (n : ByteArray) (p : List (List AV)) (m : Int) (q : List (List AV)) (k2 : Int) (n2 : ByteArray) (p2 : List (List AV)) (m2 : Int) (q2 : List (List AV)) : (kt6 f_waferref04_SamePat [AV.agg [vI k, vS n, AV.slice 1 p Own.no, vI m, AV.slice 5 q Own.no], AV.agg [vI k2, vS n2, AV.slice 1 p2 Own.no, vI m2, AV.slice 5 q2 Own.no]] []).prune (PH.of 6) =
 (.exB fun b =>
 (.call f_waferref04_patsSame [(.slice 5 [[(vI (k)), (vS (n)), (.slice 1 (p) .no), (vI (m)), (.slice 5 (q) .no)]] .full), (.slice 5 [[(vI (k2)), (vS (n2)), (.slice 1 (p2) .no), (vI (m2)), (.slice 5 (q2) .no)]] .full)] .none [] ⟨(.ret (vB (b))), .none, []⟩
 (.ret ⟨(.ret (vB (b))), .none, []⟩))) := by kernel_rfl
@[irreducible] noncomputable def X_rpatsSame (p : List (List AV)) (q : List (List AV)) : KT := kt6 f_waferref04_patsSame [AV.slice 5 p Own.no, AV.slice 5 q Own.no] []
theorem X_rpatsSame_eq (p : List (List AV)) (q : List (List AV)) : (kt6 f_waferref04_patsSame [AV.slice 5 p Own.no, AV.slice 5 q Own.no] []).prune (PH.of 53) =
 (.branch ((↑p.length : Int) != (↑q.length : Int))
 (.ret ⟨(.ret (vB false)), .none, []⟩)
 ((X_rpatsSame p q).F) /- LOOP f_waferref04_patsSame block 0 at ⟨tm2 60 [(0, (.slice 5 (p) .no)), (1, (.slice 5 (q) .no)), (5, (vI (0)))], lm2 60 [], ⟨[], [], .none, 0⟩⟩ -/) := by kernel_rfl
-- LOOP (X_rpatsSame p q).F
@[irreducible] noncomputable def X_rpatsSamef (p : List (List AV)) (q : List (List AV)) : KT := kt6 f_waferref04_patsSame [AV.slice 5 p Own.full, AV.slice 5 q Own.full] []
theorem X_rpatsSamef_eq (p : List (List AV)) (q : List (List AV)) : (kt6 f_waferref04_patsSame [AV.slice 5 p Own.full, AV.slice 5 q Own.full] []).prune (PH.of 53) =
 (.branch ((↑p.length : Int) != (↑q.length : Int))
 (.ret ⟨(.ret (vB false)), .none, []⟩)
 ((X_rpatsSamef p q).F) /- LOOP f_waferref04_patsSame block 0 at ⟨tm2 60 [(0, (.slice 5 (p) .full)), (1, (.slice 5 (q) .full)), (5, (vI (0)))], lm2 60 [], ⟨[], [], .none, 0⟩⟩ -/) := by kernel_rfl
-- LOOP (X_rpatsSamef p q).F
@[irreducible] noncomputable def X_rpatsDepth (p : List (List AV)) : KT := kt6 f_waferref04_patsDepth [AV.slice 5 p Own.no] []
theorem X_rpatsDepth_eq (p : List (List AV)) : (kt6 f_waferref04_patsDepth [AV.slice 5 p Own.no] []).prune (PH.of 0) =
 ((X_rpatsDepth p)) /- LOOP f_waferref04_patsDepth block 0 at ⟨tm2 25 [(0, (.slice 5 (p) .no)), (3, (vI (0))), (4, (vI (0)))], lm2 25 [], ⟨[], [], .none, 0⟩⟩ -/ := by kernel_rfl
-- LOOP (X_rpatsDepth p)
@[irreducible] noncomputable def X_rpatsDepthf (p : List (List AV)) : KT := kt6 f_waferref04_patsDepth [AV.slice 5 p Own.full] []
theorem X_rpatsDepthf_eq (p : List (List AV)) : (kt6 f_waferref04_patsDepth [AV.slice 5 p Own.full] []).prune (PH.of 0) =
 ((X_rpatsDepthf p)) /- LOOP f_waferref04_patsDepth block 0 at ⟨tm2 25 [(0, (.slice 5 (p) .full)), (3, (vI (0))), (4, (vI (0)))], lm2 25 [], ⟨[], [], .none, 0⟩⟩ -/ := by kernel_rfl
-- LOOP (X_rpatsDepthf p)
@[irreducible] noncomputable def X_rpat2c (n : ByteArray) : KT := kt6 f_waferref04_pat [AV.agg [vI 2, vS n, AV.slice 1 [] Own.no, vI 0, AV.slice 5 [] Own.no]] []
theorem X_rpat2c_eq (n : ByteArray) : (kt6 f_waferref04_pat [AV.agg [vI 2, vS n, AV.slice 1 [] Own.no, vI 0, AV.slice 5 [] Own.no]] []).prune (PH.of 149276) =
 (.stage
 (.done ⟨tm2 62 [(1, (.ref [(vI (2)), (vS (n)), (.slice 1 [] .no), (vI (0)), (.slice 5 [] .no)]))], lm2 62 [], ⟨[], [], .none, 0⟩⟩)
 ((X_rpat2c n).K)) := by kernel_rfl
theorem X_rpat2cs1_eq (n : ByteArray) : ((X_rpat2c n).K ⟨tm2 62 [(1, (.ref [(vI (2)), (vS (n)), (.slice 1 [] .no), (vI (0)), (.slice 5 [] .no)]))], lm2 62 [], ⟨[], [], .none, 0⟩⟩).prune (PH.of 211356) =
 (.exI fun i =>
 (.call f_waferref04_name [(vS (n)), (vB false)] .none [] ⟨(.ret (vI (i))), .none, []⟩
 (.ret ⟨(.ret (vI (i))), .none, []⟩))) := by kernel_rfl
@[irreducible] noncomputable def X_rpat3c (m : Int) : KT := kt6 f_waferref04_pat [AV.agg [vI 3, vS (⟨#[]⟩ : ByteArray), AV.slice 1 [] Own.no, vI m, AV.slice 5 [] Own.no]] []
theorem X_rpat3c_eq (m : Int) : (kt6 f_waferref04_pat [AV.agg [vI 3, vS (⟨#[]⟩ : ByteArray), AV.slice 1 [] Own.no, vI m, AV.slice 5 [] Own.no]] []).prune (PH.of 14338275) =
 (.stage
 (.branch (decide (m < 0))
 (.out (.ret ⟨(.ret (vI (1))), .none, []⟩))
 (.done ⟨tm2 62 [(1, (.ref [(vI (3)), (vS ((⟨#[]⟩ : ByteArray))), (.slice 1 [] .no), (vI (m)), (.slice 5 [] .no)]))], lm2 62 [], ⟨[], [], .none, 0⟩⟩))
 ((X_rpat3c m).K)) := by kernel_rfl
@[irreducible] noncomputable def X_rpat3cs1 (m : Int) : KT := (X_rpat3c m).K ⟨tm2 62 [(1, (.ref [(vI (3)), (vS ((⟨#[]⟩ : ByteArray))), (.slice 1 [] .no), (vI (m)), (.slice 5 [] .no)]))], lm2 62 [], ⟨[], [], .none, 0⟩⟩
theorem X_rpat3cs1_eq (m : Int) : ((X_rpat3c m).K ⟨tm2 62 [(1, (.ref [(vI (3)), (vS ((⟨#[]⟩ : ByteArray))), (.slice 1 [] .no), (vI (m)), (.slice 5 [] .no)]))], lm2 62 [], ⟨[], [], .none, 0⟩⟩).prune (PH.of 1199332) =
 (.stage
 (.done ⟨tm2 25 [(1, (.ref [(vI (3)), (vS ((⟨#[]⟩ : ByteArray))), (.slice 1 [] .no), (vI (m)), (.slice 5 [] .no)]))], lm2 25 [], ⟨[], [], .none, 0⟩⟩)
 ((X_rpat3cs1 m).F.F.T.T.F.F.K)) := by kernel_rfl
theorem X_rpat3cs2_eq (m : Int) : ((X_rpat3cs1 m).F.F.T.T.F.F.K ⟨tm2 25 [(1, (.ref [(vI (3)), (vS ((⟨#[]⟩ : ByteArray))), (.slice 1 [] .no), (vI (m)), (.slice 5 [] .no)]))], lm2 25 [], ⟨[], [], .none, 0⟩⟩).prune (PH.of 6) =
 (.exI fun i =>
 (.call f_waferref04_pats [(.slice 5 [] .no)] .none [] ⟨(.ret (vI (i))), .none, []⟩
 (.ret ⟨(.ret (vI (i))), .none, []⟩))) := by kernel_rfl
@[irreducible] noncomputable def X_rpat7c (r1 : List AV) (r2 : List AV) : KT := kt6 f_waferref04_pat [AV.agg [vI 7, vS (⟨#[]⟩ : ByteArray), AV.slice 1 [] Own.no, vI 0, AV.slice 5 [r1, r2] Own.no]] []
theorem X_rpat7c_eq (r1 : List AV) (r2 : List AV) : (kt6 f_waferref04_pat [AV.agg [vI 7, vS (⟨#[]⟩ : ByteArray), AV.slice 1 [] Own.no, vI 0, AV.slice 5 [r1, r2] Own.no]] []).prune (PH.of 1194211) =
 (.stage
 (.done ⟨tm2 62 [(1, (.ref [(vI (7)), (vS ((⟨#[]⟩ : ByteArray))), (.slice 1 [] .no), (vI (0)), (.slice 5 [(r1), (r2)] .no)]))], lm2 62 [], ⟨[], [], .none, 0⟩⟩)
 ((X_rpat7c r1 r2).K)) := by kernel_rfl
@[irreducible] noncomputable def X_rpat7cs1 (r1 : List AV) (r2 : List AV) : KT := (X_rpat7c r1 r2).K ⟨tm2 62 [(1, (.ref [(vI (7)), (vS ((⟨#[]⟩ : ByteArray))), (.slice 1 [] .no), (vI (0)), (.slice 5 [(r1), (r2)] .no)]))], lm2 62 [], ⟨[], [], .none, 0⟩⟩
theorem X_rpat7cs1_eq (r1 : List AV) (r2 : List AV) : ((X_rpat7c r1 r2).K ⟨tm2 62 [(1, (.ref [(vI (7)), (vS ((⟨#[]⟩ : ByteArray))), (.slice 1 [] .no), (vI (0)), (.slice 5 [(r1), (r2)] .no)]))], lm2 62 [], ⟨[], [], .none, 0⟩⟩).prune (PH.of 4912466212) =
 (.stage
 (.done ⟨tm2 25 [(1, (.ref [(vI (7)), (vS ((⟨#[]⟩ : ByteArray))), (.slice 1 [] .no), (vI (0)), (.slice 5 [(r1), (r2)] .no)]))], lm2 25 [], ⟨[], [], .none, 0⟩⟩)
 ((X_rpat7cs1 r1 r2).F.F.F.F.F.F.T.T.F.F.K)) := by kernel_rfl
theorem X_rpat7cs2_eq (r1 : List AV) (r2 : List AV) : ((X_rpat7cs1 r1 r2).F.F.F.F.F.F.T.T.F.F.K ⟨tm2 25 [(1, (.ref [(vI (7)), (vS ((⟨#[]⟩ : ByteArray))), (.slice 1 [] .no), (vI (0)), (.slice 5 [(r1), (r2)] .no)]))], lm2 25 [], ⟨[], [], .none, 0⟩⟩).prune (PH.of 6) =
 (.exI fun i =>
 (.call f_waferref04_pats [(.slice 5 [(r1), (r2)] .no)] .none [] ⟨(.ret (vI (i))), .none, []⟩
 (.ret ⟨(.ret (vI (i))), .none, []⟩))) := by kernel_rfl
@[irreducible] noncomputable def X_rpat8c (p : List (List AV)) : KT := kt6 f_waferref04_pat [AV.agg [vI 8, vS (⟨#[]⟩ : ByteArray), AV.slice 1 p Own.no, vI 0, AV.slice 5 [] Own.no]] []
theorem X_rpat8c_eq (p : List (List AV)) : (kt6 f_waferref04_pat [AV.agg [vI 8, vS (⟨#[]⟩ : ByteArray), AV.slice 1 p Own.no, vI 0, AV.slice 5 [] Own.no]] []).prune (PH.of 149283) =
 (.stage
 (.done ⟨tm2 62 [(1, (.ref [(vI (8)), (vS ((⟨#[]⟩ : ByteArray))), (.slice 1 (p) .no), (vI (0)), (.slice 5 [] .no)]))], lm2 62 [], ⟨[], [], .none, 0⟩⟩)
 ((X_rpat8c p).K)) := by kernel_rfl
@[irreducible] noncomputable def X_rpat8cs1 (p : List (List AV)) : KT := (X_rpat8c p).K ⟨tm2 62 [(1, (.ref [(vI (8)), (vS ((⟨#[]⟩ : ByteArray))), (.slice 1 (p) .no), (vI (0)), (.slice 5 [] .no)]))], lm2 62 [], ⟨[], [], .none, 0⟩⟩
theorem X_rpat8cs1_eq (p : List (List AV)) : ((X_rpat8c p).K ⟨tm2 62 [(1, (.ref [(vI (8)), (vS ((⟨#[]⟩ : ByteArray))), (.slice 1 (p) .no), (vI (0)), (.slice 5 [] .no)]))], lm2 62 [], ⟨[], [], .none, 0⟩⟩).prune (PH.of 3672842062116) =
 (.stage
 (.exI fun i =>
 (.call f_waferref04_last [(.slice 1 (p) .no), (vB true)] .none [] ⟨(.ret (vI (i))), .none, []⟩
 (.branch (i != 0)
 (.out (.ret ⟨(.ret (vI (i))), .none, []⟩))
 (.done ⟨tm2 25 [(1, (.ref [(vI (8)), (vS ((⟨#[]⟩ : ByteArray))), (.slice 1 (p) .no), (vI (0)), (.slice 5 [] .no)]))], lm2 25 [], ⟨[], [], .none, 0⟩⟩))))
 ((X_rpat8cs1 p).F.F.F.F.F.F.F.T.T.F.F.K)) := by kernel_rfl
theorem X_rpat8cs2_eq (p : List (List AV)) : ((X_rpat8cs1 p).F.F.F.F.F.F.F.T.T.F.F.K ⟨tm2 25 [(1, (.ref [(vI (8)), (vS ((⟨#[]⟩ : ByteArray))), (.slice 1 (p) .no), (vI (0)), (.slice 5 [] .no)]))], lm2 25 [], ⟨[], [], .none, 0⟩⟩).prune (PH.of 6) =
 (.exI fun i =>
 (.call f_waferref04_pats [(.slice 5 [] .no)] .none [] ⟨(.ret (vI (i))), .none, []⟩
 (.ret ⟨(.ret (vI (i))), .none, []⟩))) := by kernel_rfl
@[irreducible] noncomputable def X_rpat8ac (p : List (List AV)) (r : List AV) : KT := kt6 f_waferref04_pat [AV.agg [vI 8, vS (⟨#[]⟩ : ByteArray), AV.slice 1 p Own.no, vI 0, AV.slice 5 [r] Own.no]] []
theorem X_rpat8ac_eq (p : List (List AV)) (r : List AV) : (kt6 f_waferref04_pat [AV.agg [vI 8, vS (⟨#[]⟩ : ByteArray), AV.slice 1 p Own.no, vI 0, AV.slice 5 [r] Own.no]] []).prune (PH.of 149283) =
 (.stage
 (.done ⟨tm2 62 [(1, (.ref [(vI (8)), (vS ((⟨#[]⟩ : ByteArray))), (.slice 1 (p) .no), (vI (0)), (.slice 5 [(r)] .no)]))], lm2 62 [], ⟨[], [], .none, 0⟩⟩)
 ((X_rpat8ac p r).K)) := by kernel_rfl
@[irreducible] noncomputable def X_rpat8acs1 (p : List (List AV)) (r : List AV) : KT := (X_rpat8ac p r).K ⟨tm2 62 [(1, (.ref [(vI (8)), (vS ((⟨#[]⟩ : ByteArray))), (.slice 1 (p) .no), (vI (0)), (.slice 5 [(r)] .no)]))], lm2 62 [], ⟨[], [], .none, 0⟩⟩
theorem X_rpat8acs1_eq (p : List (List AV)) (r : List AV) : ((X_rpat8ac p r).K ⟨tm2 62 [(1, (.ref [(vI (8)), (vS ((⟨#[]⟩ : ByteArray))), (.slice 1 (p) .no), (vI (0)), (.slice 5 [(r)] .no)]))], lm2 62 [], ⟨[], [], .none, 0⟩⟩).prune (PH.of 3672842062116) =
 (.stage
 (.exI fun i =>
 (.call f_waferref04_last [(.slice 1 (p) .no), (vB true)] .none [] ⟨(.ret (vI (i))), .none, []⟩
 (.branch (i != 0)
 (.out (.ret ⟨(.ret (vI (i))), .none, []⟩))
 (.done ⟨tm2 25 [(1, (.ref [(vI (8)), (vS ((⟨#[]⟩ : ByteArray))), (.slice 1 (p) .no), (vI (0)), (.slice 5 [(r)] .no)]))], lm2 25 [], ⟨[], [], .none, 0⟩⟩))))
 ((X_rpat8acs1 p r).F.F.F.F.F.F.F.T.T.F.F.K)) := by kernel_rfl
theorem X_rpat8acs2_eq (p : List (List AV)) (r : List AV) : ((X_rpat8acs1 p r).F.F.F.F.F.F.F.T.T.F.F.K ⟨tm2 25 [(1, (.ref [(vI (8)), (vS ((⟨#[]⟩ : ByteArray))), (.slice 1 (p) .no), (vI (0)), (.slice 5 [(r)] .no)]))], lm2 25 [], ⟨[], [], .none, 0⟩⟩).prune (PH.of 6) =
 (.exI fun i =>
 (.call f_waferref04_pats [(.slice 5 [(r)] .no)] .none [] ⟨(.ret (vI (i))), .none, []⟩
 (.ret ⟨(.ret (vI (i))), .none, []⟩))) := by kernel_rfl
@[irreducible] noncomputable def X_rpats (p : List (List AV)) : KT := kt6 f_waferref04_pats [AV.slice 5 p Own.no] []
theorem X_rpats_eq (p : List (List AV)) : (kt6 f_waferref04_pats [AV.slice 5 p Own.no] []).prune (PH.of 0) =
 ((X_rpats p)) /- LOOP f_waferref04_pats block 0 at ⟨tm2 19 [(0, (.slice 5 (p) .no)), (3, (vI (0)))], lm2 19 [], ⟨[], [], .none, 0⟩⟩ -/ := by kernel_rfl
-- LOOP (X_rpats p)
@[irreducible] noncomputable def X_rpatsSameR (p : List (List AV)) (q : List (List AV)) (i : Nat) : KT := KT.round Pg cfg0 rs0 kc6 (Y_rpatsSame p q) { tmps := tm2 60 [(0, AV.slice 5 p Own.no), (1, AV.slice 5 q Own.no), (5, vI (↑i : Int))], lh := lm2 60 [], g := { H := [], defers := [], rm := RM.none, base := 0 } }
theorem X_rpatsSameR_eq (p : List (List AV)) (q : List (List AV)) (i : Nat) : (KT.round Pg cfg0 rs0 kc6 (Y_rpatsSame p q) { tmps := tm2 60 [(0, AV.slice 5 p Own.no), (1, AV.slice 5 q Own.no), (5, vI (↑i : Int))], lh := lm2 60 [], g := { H := [], defers := [], rm := RM.none, base := 0 } }).prune (PH.of 26445298749869) =
 (.branch (decide ((↑i : Int) < (↑p.length : Int)))
 (.exI fun i1 =>
 (.exS fun s =>
 (.exR fun l =>
 (.exI fun i2 =>
 (.exR fun l1 =>
 (.row (p) ((↑i : Int)) [(vI (i1)), (vS (s)), (.slice 1 (l) .no), (vI (i2)), (.slice 5 (l1) .no)]
 (.exI fun i3 =>
 (.exS fun s1 =>
 (.exR fun l2 =>
 (.exI fun i4 =>
 (.exR fun l3 =>
 (.row (q) ((↑i : Int)) [(vI (i3)), (vS (s1)), (.slice 1 (l2) .no), (vI (i4)), (.slice 5 (l3) .no)]
 (.stage
 (.branch (i1 != i3)
 (.out (.out (.ret ⟨(.ret (vB false)), .none, []⟩)))
 (.branch (!s.toList == s1.toList)
 (.out (.out (.ret ⟨(.ret (vB false)), .none, []⟩)))
 (.branch (i2 != i4)
 (.out (.out (.ret ⟨(.ret (vB false)), .none, []⟩)))
 (.exB fun b =>
 (.call f_waferref04_texts [(.slice 1 (l) .no), (.slice 1 (l2) .no)] .none [] ⟨(.ret (vB (b))), .none, []⟩
 (.branch (!b)
 (.out (.out (.ret ⟨(.ret (vB false)), .none, []⟩)))
 (.done ⟨tm2 60 [(0, (.slice 5 (p) .no)), (1, (.slice 5 (q) .no)), (5, (vI ((↑i : Int)))), (6, (.lp 6 0 0)), (7, (.lp 7 0 0))], lm2 60 [(6, (0, [(vI (i1)), (vS (s)), (.slice 1 (l) .no), (vI (i2)), (.slice 5 (l1) .no)])), (7, (0, [(vI (i3)), (vS (s1)), (.slice 1 (l2) .no), (vI (i4)), (.slice 5 (l3) .no)]))], ⟨[], [], .none, 0⟩⟩)))))))
 ((((((((((((X_rpatsSameR p q i).T.I i1).S s).R l).I i2).R l1).T.I i3).S s1).R l2).I i4).R l3).T.K))))))))))))))
 (.out (.ret ⟨(.ret (vB true)), .none, []⟩))) := by kernel_rfl
theorem X_rpatsSameRs1_eq (p : List (List AV)) (q : List (List AV)) (i : Nat) (i1 : Int) (s : ByteArray) (l : List (List AV)) (i2 : Int) (l1 : List (List AV)) (i3 : Int) (s1 : ByteArray) (l2 : List (List AV)) (i4 : Int) (l3 : List (List AV)) : ((((((((((((X_rpatsSameR p q i).T.I i1).S s).R l).I i2).R l1).T.I i3).S s1).R l2).I i4).R l3).T.K ⟨tm2 60 [(0, (.slice 5 (p) .no)), (1, (.slice 5 (q) .no)), (5, (vI ((↑i : Int)))), (6, (.lp 6 0 0)), (7, (.lp 7 0 0))], lm2 60 [(6, (0, [(vI (i1)), (vS (s)), (.slice 1 (l) .no), (vI (i2)), (.slice 5 (l1) .no)])), (7, (0, [(vI (i3)), (vS (s1)), (.slice 1 (l2) .no), (vI (i4)), (.slice 5 (l3) .no)]))], ⟨[], [], .none, 0⟩⟩).prune (PH.of 53) =
 (.exB fun b =>
 (.call f_waferref04_patsSame [(.slice 5 (l1) .no), (.slice 5 (l3) .no)] .none [] ⟨(.ret (vB (b))), .none, []⟩
 (.branch (!b)
 (.out (.ret ⟨(.ret (vB false)), .none, []⟩))
 (.done ⟨tm2 60 [(0, (.slice 5 (p) .no)), (1, (.slice 5 (q) .no)), (5, (vI (IntKind.i64.wrap ((↑i : Int) + 1))))], lm2 60 [], ⟨[], [], .none, 0⟩⟩)))) := by kernel_rfl
@[irreducible] noncomputable def X_rpatsSamefR (p : List (List AV)) (q : List (List AV)) (i : Nat) : KT := KT.round Pg cfg0 rs0 kc6 (Y_rpatsSamef p q) { tmps := tm2 60 [(0, AV.slice 5 p Own.full), (1, AV.slice 5 q Own.full), (5, vI (↑i : Int))], lh := lm2 60 [], g := { H := [], defers := [], rm := RM.none, base := 0 } }
theorem X_rpatsSamefR_eq (p : List (List AV)) (q : List (List AV)) (i : Nat) : (KT.round Pg cfg0 rs0 kc6 (Y_rpatsSamef p q) { tmps := tm2 60 [(0, AV.slice 5 p Own.full), (1, AV.slice 5 q Own.full), (5, vI (↑i : Int))], lh := lm2 60 [], g := { H := [], defers := [], rm := RM.none, base := 0 } }).prune (PH.of 26445298749869) =
 (.branch (decide ((↑i : Int) < (↑p.length : Int)))
 (.exI fun i1 =>
 (.exS fun s =>
 (.exR fun l =>
 (.exI fun i2 =>
 (.exR fun l1 =>
 (.row (p) ((↑i : Int)) [(vI (i1)), (vS (s)), (.slice 1 (l) .no), (vI (i2)), (.slice 5 (l1) .no)]
 (.exI fun i3 =>
 (.exS fun s1 =>
 (.exR fun l2 =>
 (.exI fun i4 =>
 (.exR fun l3 =>
 (.row (q) ((↑i : Int)) [(vI (i3)), (vS (s1)), (.slice 1 (l2) .no), (vI (i4)), (.slice 5 (l3) .no)]
 (.stage
 (.branch (i1 != i3)
 (.out (.out (.ret ⟨(.ret (vB false)), .none, []⟩)))
 (.branch (!s.toList == s1.toList)
 (.out (.out (.ret ⟨(.ret (vB false)), .none, []⟩)))
 (.branch (i2 != i4)
 (.out (.out (.ret ⟨(.ret (vB false)), .none, []⟩)))
 (.exB fun b =>
 (.call f_waferref04_texts [(.slice 1 (l) .no), (.slice 1 (l2) .no)] .none [] ⟨(.ret (vB (b))), .none, []⟩
 (.branch (!b)
 (.out (.out (.ret ⟨(.ret (vB false)), .none, []⟩)))
 (.done ⟨tm2 60 [(0, (.slice 5 (p) .full)), (1, (.slice 5 (q) .full)), (5, (vI ((↑i : Int)))), (6, (.lp 6 0 0)), (7, (.lp 7 0 0))], lm2 60 [(6, (0, [(vI (i1)), (vS (s)), (.slice 1 (l) .no), (vI (i2)), (.slice 5 (l1) .no)])), (7, (0, [(vI (i3)), (vS (s1)), (.slice 1 (l2) .no), (vI (i4)), (.slice 5 (l3) .no)]))], ⟨[], [], .none, 0⟩⟩)))))))
 ((((((((((((X_rpatsSamefR p q i).T.I i1).S s).R l).I i2).R l1).T.I i3).S s1).R l2).I i4).R l3).T.K))))))))))))))
 (.out (.ret ⟨(.ret (vB true)), .none, []⟩))) := by kernel_rfl
theorem X_rpatsSamefRs1_eq (p : List (List AV)) (q : List (List AV)) (i : Nat) (i1 : Int) (s : ByteArray) (l : List (List AV)) (i2 : Int) (l1 : List (List AV)) (i3 : Int) (s1 : ByteArray) (l2 : List (List AV)) (i4 : Int) (l3 : List (List AV)) : ((((((((((((X_rpatsSamefR p q i).T.I i1).S s).R l).I i2).R l1).T.I i3).S s1).R l2).I i4).R l3).T.K ⟨tm2 60 [(0, (.slice 5 (p) .full)), (1, (.slice 5 (q) .full)), (5, (vI ((↑i : Int)))), (6, (.lp 6 0 0)), (7, (.lp 7 0 0))], lm2 60 [(6, (0, [(vI (i1)), (vS (s)), (.slice 1 (l) .no), (vI (i2)), (.slice 5 (l1) .no)])), (7, (0, [(vI (i3)), (vS (s1)), (.slice 1 (l2) .no), (vI (i4)), (.slice 5 (l3) .no)]))], ⟨[], [], .none, 0⟩⟩).prune (PH.of 53) =
 (.exB fun b =>
 (.call f_waferref04_patsSame [(.slice 5 (l1) .no), (.slice 5 (l3) .no)] .none [] ⟨(.ret (vB (b))), .none, []⟩
 (.branch (!b)
 (.out (.ret ⟨(.ret (vB false)), .none, []⟩))
 (.done ⟨tm2 60 [(0, (.slice 5 (p) .full)), (1, (.slice 5 (q) .full)), (5, (vI (IntKind.i64.wrap ((↑i : Int) + 1))))], lm2 60 [], ⟨[], [], .none, 0⟩⟩)))) := by kernel_rfl
theorem X_rpatsDepthR_eq (p : List (List AV)) (m : Int) (i : Nat) : (KT.round Pg cfg0 rs0 kc6 (Y_rpatsDepth p) { tmps := tm2 25 [(0, AV.slice 5 p Own.no), (3, vI m), (4, vI (↑i : Int))], lh := lm2 25 [], g := { H := [], defers := [], rm := RM.none, base := 0 } }).prune (PH.of 26807811730349) =
 (.branch (decide ((↑i : Int) < (↑p.length : Int)))
 (.exI fun i1 =>
 (.exS fun s =>
 (.exR fun l =>
 (.exI fun i2 =>
 (.exR fun l1 =>
 (.row (p) ((↑i : Int)) [(vI (i1)), (vS (s)), (.slice 1 (l) .no), (vI (i2)), (.slice 5 (l1) .no)]
 (.exI fun i3 =>
 (.call f_waferref04_patsDepth [(.slice 5 (l1) .no)] .none [] ⟨(.ret (vI (i3))), .none, []⟩
 (.branch (decide (0 > i3))
 (.branch (decide (m > IntKind.i64.wrap (0 + 1)))
 (.done ⟨tm2 25 [(0, (.slice 5 (p) .no)), (3, (vI (m))), (4, (vI (IntKind.i64.wrap ((↑i : Int) + 1))))], lm2 25 [], ⟨[], [], .none, 0⟩⟩)
 (.done ⟨tm2 25 [(0, (.slice 5 (p) .no)), (3, (vI (IntKind.i64.wrap (0 + 1)))), (4, (vI (IntKind.i64.wrap ((↑i : Int) + 1))))], lm2 25 [], ⟨[], [], .none, 0⟩⟩))
 (.branch (decide (m > IntKind.i64.wrap (i3 + 1)))
 (.done ⟨tm2 25 [(0, (.slice 5 (p) .no)), (3, (vI (m))), (4, (vI (IntKind.i64.wrap ((↑i : Int) + 1))))], lm2 25 [], ⟨[], [], .none, 0⟩⟩)
 (.done ⟨tm2 25 [(0, (.slice 5 (p) .no)), (3, (vI (IntKind.i64.wrap (i3 + 1)))), (4, (vI (IntKind.i64.wrap ((↑i : Int) + 1))))], lm2 25 [], ⟨[], [], .none, 0⟩⟩)))))))))))
 (.out (.ret ⟨(.ret (vI (m))), .none, []⟩))) := by kernel_rfl
theorem X_rpatsDepthfR_eq (p : List (List AV)) (m : Int) (i : Nat) : (KT.round Pg cfg0 rs0 kc6 (Y_rpatsDepthf p) { tmps := tm2 25 [(0, AV.slice 5 p Own.full), (3, vI m), (4, vI (↑i : Int))], lh := lm2 25 [], g := { H := [], defers := [], rm := RM.none, base := 0 } }).prune (PH.of 26807811730349) =
 (.branch (decide ((↑i : Int) < (↑p.length : Int)))
 (.exI fun i1 =>
 (.exS fun s =>
 (.exR fun l =>
 (.exI fun i2 =>
 (.exR fun l1 =>
 (.row (p) ((↑i : Int)) [(vI (i1)), (vS (s)), (.slice 1 (l) .no), (vI (i2)), (.slice 5 (l1) .no)]
 (.exI fun i3 =>
 (.call f_waferref04_patsDepth [(.slice 5 (l1) .no)] .none [] ⟨(.ret (vI (i3))), .none, []⟩
 (.branch (decide (0 > i3))
 (.branch (decide (m > IntKind.i64.wrap (0 + 1)))
 (.done ⟨tm2 25 [(0, (.slice 5 (p) .full)), (3, (vI (m))), (4, (vI (IntKind.i64.wrap ((↑i : Int) + 1))))], lm2 25 [], ⟨[], [], .none, 0⟩⟩)
 (.done ⟨tm2 25 [(0, (.slice 5 (p) .full)), (3, (vI (IntKind.i64.wrap (0 + 1)))), (4, (vI (IntKind.i64.wrap ((↑i : Int) + 1))))], lm2 25 [], ⟨[], [], .none, 0⟩⟩))
 (.branch (decide (m > IntKind.i64.wrap (i3 + 1)))
 (.done ⟨tm2 25 [(0, (.slice 5 (p) .full)), (3, (vI (m))), (4, (vI (IntKind.i64.wrap ((↑i : Int) + 1))))], lm2 25 [], ⟨[], [], .none, 0⟩⟩)
 (.done ⟨tm2 25 [(0, (.slice 5 (p) .full)), (3, (vI (IntKind.i64.wrap (i3 + 1)))), (4, (vI (IntKind.i64.wrap ((↑i : Int) + 1))))], lm2 25 [], ⟨[], [], .none, 0⟩⟩)))))))))))
 (.out (.ret ⟨(.ret (vI (m))), .none, []⟩))) := by kernel_rfl
theorem X_rpatsR_eq (p : List (List AV)) (i : Nat) : (KT.round Pg cfg0 rs0 kc6 (Y_rpats p) { tmps := tm2 19 [(0, AV.slice 5 p Own.no), (3, vI (↑i : Int))], lh := lm2 19 [], g := { H := [], defers := [], rm := RM.none, base := 0 } }).prune (PH.of 197037) =
 (.branch (decide ((↑i : Int) < (↑p.length : Int)))
 (.exI fun i1 =>
 (.exS fun s =>
 (.exR fun l =>
 (.exI fun i2 =>
 (.exR fun l1 =>
 (.row (p) ((↑i : Int)) [(vI (i1)), (vS (s)), (.slice 1 (l) .no), (vI (i2)), (.slice 5 (l1) .no)]
 (.exI fun i3 =>
 (.call f_waferref04_pat [(.agg [(vI (i1)), (vS (s)), (.slice 1 (l) .no), (vI (i2)), (.slice 5 (l1) .no)])] .none [] ⟨(.ret (vI (i3))), .none, []⟩
 (.branch (i3 != 0)
 (.out (.ret ⟨(.ret (vI (i3))), .none, []⟩))
 (.done ⟨tm2 19 [(0, (.slice 5 (p) .no)), (3, (vI (IntKind.i64.wrap ((↑i : Int) + 1))))], lm2 19 [], ⟨[], [], .none, 0⟩⟩))))))))))
 (.out (.ret ⟨(.ret (vI (0))), .none, []⟩))) := by kernel_rfl
end Go.Proofs
end
