/- Texts of this proof folded into one: Q1 RX4 Q2 Q3 Q4. -/
import Derived.Test.YtmdjdcnabbapgaaGreatDoorH16
import Derived.Test.YtmdjdcnabbapgaaGreatDoorH18
import Derived.Test.YtmdjdcnabbapgaaGreatDoorH15
import Derived.Test.YtmdjdcnabbapgaaGreatDoorH17
section
/- PARSE: the document's reader: what its functions come to; Is, kind, Take, Need, name, dotted -/
set_option linter.unusedVariables false
set_option linter.unusedSimpArgs false
set_option maxRecDepth 100000
open Go Go.Eng Go.Pa
open Go.Lx (T Tok)
namespace Go.Proofs
abbrev qH (L : List Tok) (z k e p : Nat) : Heap := [hp5 (tks L) z k e p]
/-- What a rule of the document's reader comes to, from where it goes on well. -/
def Qq {α : Type} (v : α → AV) (sh : AV → Prop) (F : Res α) (L : List Tok) (z : Nat) (r : CRes) : Prop :=
  match F with
  | .ok a l => ∃ k, L.drop k = l ∧ k ≤ L.length ∧ r = ⟨.ret (v a), .none, qH L z k 0 0⟩
  | .no e p => e ≠ 0 ∧ ∃ k x, sh x ∧ r = ⟨.ret x, .none, qH L z k e p⟩
def QC {α : Type} (v : α → AV) (sh : AV → Prop) (F : Res α) (L : List Tok) (z : Nat) (g : FuncId) (args : List AV) (H : Heap) : Prop := ∃ r, evp g args .none H = some r ∧ Qq v sh F L z r
/-- What has failed stays so. -/
def QB (sh : AV → Prop) (g : FuncId) (args : List AV) (L : List Tok) (z : Nat) : Prop := ∀ k e p : Nat, e ≠ 0 → ∃ x, sh x ∧ evp g args .none (qH L z k e p) = some ⟨.ret x, .none, qH L z k e p⟩
theorem qc_of {α : Type} {v : α → AV} {sh : AV → Prop} {F : Res α} {L : List Tok} {z : Nat} {g : FuncId} {args : List AV} {H : Heap} (h : (kt5 g args H).wp Pg cfg0 evp [] (Qq v sh F L z)) : QC v sh F L z g args H := kt5_ex h
/-- A failed state's end. -/
def Bq (sh : AV → Prop) (L : List Tok) (z k e p : Nat) (r : CRes) : Prop := ∃ x, sh x ∧ r = ⟨.ret x, .none, qH L z k e p⟩
theorem qb_of {sh : AV → Prop} {g : FuncId} {args : List AV} {L : List Tok} {z : Nat} (h : ∀ k e p : Nat, e ≠ 0 → (kt5 g args (qH L z k e p)).wp Pg cfg0 evp [] (Bq sh L z k e p)) : QB sh g args L z := fun k e p he => by
  obtain ⟨r, h1, x, h2, rfl⟩ := kt5_ex (h k e p he)
  exact ⟨x, h2, h1⟩
theorem qq_ok {α : Type} {v : α → AV} {sh : AV → Prop} {F : Res α} {L : List Tok} {z k : Nat} {a : α} {l : List Tok} {x : AV} (h : F = .ok a l) (hk : L.drop k = l) (hl : k ≤ L.length) (hx : x = v a) : Qq v sh F L z ⟨.ret x, .none, qH L z k 0 0⟩ := by
  subst h hx; exact ⟨k, hk, hl, rfl⟩
theorem qq_no {α : Type} {v : α → AV} {sh : AV → Prop} {F : Res α} {L : List Tok} {z k e p : Nat} {x : AV} (h : F = .no e p) (he : e ≠ 0) (hx : sh x) : Qq v sh F L z ⟨.ret x, .none, qH L z k e p⟩ := by
  subst h; exact ⟨he, k, x, hx, rfl⟩
def shStrs (x : AV) : Prop := ∃ l, x = .slice 1 l .no
def shTy (x : AV) : Prop := ∃ k n p q, x = .agg [vI k, vS n, .slice 1 p .no, .slice 4 q .no]
def shUnit (x : AV) : Prop := x = .tuple []
theorem dropc {L : List Tok} {k : Nat} {t : Tok} {r : List Tok} (h : L.drop k = t :: r) : k < L.length ∧ L[k]? = some t ∧ L.drop (k + 1) = r := by
  have h1 : k < L.length := by
    rcases Nat.lt_or_ge k L.length with h2 | h2
    · exact h2
    · rw [List.drop_of_length_le h2] at h; cases h
  rw [List.drop_eq_getElem_cons h1] at h
  injection h with e1 e2
  exact ⟨h1, by rw [List.getElem?_eq_getElem h1, e1], e2⟩
theorem dropn {L : List Tok} {k : Nat} (h : L.drop k = []) : L.length ≤ k := List.drop_eq_nil_iff.1 h
theorem rowk {L : List Tok} {k : Nat} {t : Tok} (h : L[k]? = some t) : (0 : Int) ≤ (k : Int) ∧ (tks L)[(k : Int).toNat]? = some [vI t.kind, vS ⟨t.text.toArray⟩, vI t.n, vI t.at_] :=
  ⟨Int.natCast_nonneg k, by rw [Int.toNat_natCast, tks, List.getElem?_map, h]; rfl⟩
theorem ne0i {e : Nat} (h : e ≠ 0) : ((e : Int) != 0) = true := by simp; omega
theorem eq0i {e : Nat} (h : e ≠ 0) : ((e : Int) == 0) = false := by simp; omega
theorem ge_len {L : List Tok} {k : Nat} {p : Prop} {t : Tok} {r : List Tok} (h : L.drop k = t :: r) (hd : decide ((k : Int) ≥ ((tks L).length : Int)) = true) : p := by
  have := (dropc h).1
  have := of_decide_eq_true hd
  simp only [tks, List.length_map] at this
  omega
theorem lt_len {L : List Tok} {k : Nat} {p : Prop} (h : L.drop k = []) (hd : decide ((k : Int) < ((tks L).length : Int)) = true) : p := by
  have := dropn h
  have := of_decide_eq_true hd
  simp only [tks, List.length_map] at this
  omega
theorem not_ge {L : List Tok} {k : Nat} {p : Prop} (h : L.drop k = []) (hd : decide ((k : Int) ≥ ((tks L).length : Int)) = false) : p := by
  have := dropn h
  have := of_decide_eq_false hd
  simp only [tks, List.length_map] at this
  omega
theorem not_lt {L : List Tok} {k : Nat} {p : Prop} {t : Tok} {r : List Tok} (h : L.drop k = t :: r) (hd : decide ((k : Int) < ((tks L).length : Int)) = false) : p := by
  have := (dropc h).1
  have := of_decide_eq_false hd
  simp only [tks, List.length_map] at this
  omega
theorem c_rIs (L : List Tok) (z k : Nat) (w : ByteArray) : evp f_waferref05_Reader_Is [.ptr 0 0, vS w] .none (qH L z k 0 0) = some ⟨.ret (vB (isW (tx w) (L.drop k))), .none, qH L z k 0 0⟩ := by
  refine kt5_is (wp_eq2 (X_rIs_eq ..) (wp_stage (wp_if2 (fun h => absurd h (by decide)) fun _ => ?_)))
  cases hD : L.drop k with
  | nil => exact wp_if2 (fun _ => wp_out ⟨rfl, wp_if2 nf (fun _ => ⟨rfl, rfl⟩)⟩) (not_ge hD)
  | cons t r =>
    refine wp_if2 (ge_len hD) (fun _ => wp_done (wp_eq2 (X_rIss1_eq ..) ⟨_, _, _, _, rowk (dropc hD).2.1, rfl, wp_if2 (fun _ => ?_) tf⟩))
    have e3 : ((t.kind : Int) == 3) = (t.kind == 3) := kq _ 3
    have e6 : ((t.kind : Int) == 6) = (t.kind == 6) := kq _ 6
    rw [e3, e6]
    refine wp_if2 (fun h => ⟨rfl, retH (congrArg vB ?_)⟩) (fun h => wp_if2 (fun h6 => ⟨rfl, retH (congrArg vB ?_)⟩) (fun h6 => ⟨rfl, retH (congrArg vB ?_)⟩))
    · rw [beq_tx]; simp [isW, h, tx]
    · rw [beq_tx]; simp [isW, h6, tx]
    · simp [isW, h, h6]
theorem b_rIs (L : List Tok) (z k e p : Nat) (w : ByteArray) (he : e ≠ 0) : evp f_waferref05_Reader_Is [.ptr 0 0, vS w] .none (qH L z k e p) = some ⟨.ret (vB false), .none, qH L z k e p⟩ :=
  kt5_is (wp_eq2 (X_rIs_eq ..) (wp_stage (wp_if2 (fun _ => wp_out ⟨rfl, wp_if2 nf (fun _ => ⟨rfl, rfl⟩)⟩) (fun h => by rw [ne0i he] at h; cases h))))
theorem c_rkind (L : List Tok) (z k j : Nat) : evp f_waferref05_Reader_kind [.ptr 0 0, vI (j : Int)] .none (qH L z k 0 0) = some ⟨.ret (vB (ofK j (L.drop k))), .none, qH L z k 0 0⟩ := by
  refine kt5_is (wp_eq2 (X_rkind_eq ..) (wp_stage (wp_if2 (fun h => absurd h (by decide)) fun _ => ?_)))
  cases hD : L.drop k with
  | nil => exact wp_if2 (fun _ => wp_out ⟨rfl, wp_if2 nf (fun _ => ⟨rfl, rfl⟩)⟩) (not_ge hD)
  | cons t r =>
    refine wp_if2 (ge_len hD) (fun _ => wp_done (wp_eq2 (X_rkinds1_eq ..) ⟨_, _, _, _, rowk (dropc hD).2.1, rfl, wp_if2 (fun _ => ⟨rfl, retH (congrArg vB ?_)⟩) tf⟩))
    exact kq _ _
/-- The heap behind Take. -/
abbrev tkH (L : List Tok) (z k : Nat) (w : ByteArray) : Heap := qH L z (if isW (tx w) (L.drop k) then k + 1 else k) 0 0
theorem c_rTake (L : List Tok) (z k : Nat) (w : ByteArray) (hL : L.length < BIG) : evp f_waferref05_Reader_Take [.ptr 0 0, vS w] .none (qH L z k 0 0) = some ⟨.ret (vB (isW (tx w) (L.drop k))), .none, tkH L z k w⟩ := by
  refine kt5_is (wp_eq2 (X_rTake_eq ..) ⟨_, c_rIs L z k w, ?_⟩)
  cases hb : isW (tx w) (L.drop k) with
  | false => exact wp_if2 (fun _ => ⟨rfl, by rw [tkH, hb]; rfl⟩) tf
  | true =>
    have hk : k < L.length := by
      cases hD : L.drop k with
      | nil => rw [hD] at hb; cases hb
      | cons t r => exact (dropc hD).1
    refine wp_if2 nf (fun _ => ⟨rfl, ?_⟩)
    rw [wrapU (by omega), tkH, hb]; rfl
theorem b_rTake (L : List Tok) (z k e p : Nat) (w : ByteArray) (he : e ≠ 0) : evp f_waferref05_Reader_Take [.ptr 0 0, vS w] .none (qH L z k e p) = some ⟨.ret (vB false), .none, qH L z k e p⟩ :=
  kt5_is (wp_eq2 (X_rTake_eq ..) ⟨_, b_rIs L z k e p w he, wp_if2 (fun _ => ⟨rfl, rfl⟩) tf⟩)
section
variable {QD : List (St → Prop)} {QR : CRes → Prop}
/-- Take, and then either way; where all goes well. -/
theorem wq_take {L : List Tok} {z k : Nat} {w : ByteArray} {t f : List (List AV) → Int → Int → Int → Int → KT} (hL : L.length < BIG) (hk : k ≤ L.length)
    (h1 : isW (tx w) (L.drop k) = true → L.drop (k + 1) = (L.drop k).tail → k + 1 ≤ L.length → (t (tks L) z (k + 1 : Nat) 0 0).wp Pg cfg0 evp QD QR) (h2 : isW (tx w) (L.drop k) = false → (f (tks L) z k 0 0).wp Pg cfg0 evp QD QR) :
    (KT.exB fun b => .exR fun m => .exI fun a => .exI fun e => .exI fun p => .exI fun d' => .call f_waferref05_Reader_Take [.ptr 0 0, vS w] .none (qH L z k 0 0) ⟨.ret (vB b), .none, [hp5 m a e p d']⟩ (.branch b (t m a e p d') (f m a e p d'))).wp Pg cfg0 evp QD QR := by
  have c := c_rTake L z k w hL
  cases hb : isW (tx w) (L.drop k) with
  | true =>
    rw [tkH, hb] at c
    have hd : L.drop (k + 1) = (L.drop k).tail ∧ k + 1 ≤ L.length := by
      cases hD : L.drop k with
      | nil => rw [hD] at hb; cases hb
      | cons t r => exact ⟨(dropc hD).2.2, (dropc hD).1⟩
    exact ⟨true, _, _, _, _, _, c, fun _ => h1 hb hd.1 hd.2, fun h => (by cases h)⟩
  | false =>
    rw [tkH, hb] at c
    exact ⟨false, _, _, _, _, _, c, fun h => (by cases h), fun _ => h2 hb⟩
theorem wb_take {L : List Tok} {z k e p : Nat} {w : ByteArray} {t f : List (List AV) → Int → Int → Int → Int → KT} (he : e ≠ 0) (h2 : (f (tks L) z k e p).wp Pg cfg0 evp QD QR) :
    (KT.exB fun b => .exR fun m => .exI fun a => .exI fun e' => .exI fun p' => .exI fun d' => .call f_waferref05_Reader_Take [.ptr 0 0, vS w] .none (qH L z k e p) ⟨.ret (vB b), .none, [hp5 m a e' p' d']⟩ (.branch b (t m a e' p' d') (f m a e' p' d'))).wp Pg cfg0 evp QD QR :=
  ⟨false, _, _, _, _, _, b_rTake L z k e p w he, fun h => (by cases h), fun _ => h2⟩
end
theorem c_rNeed {L : List Tok} {z k : Nat} {w : ByteArray} (hL : L.length < BIG) (hk : k ≤ L.length) : QC unitV shUnit (need z (tx w) (L.drop k)) L z f_waferref05_Reader_Need [.ptr 0 0, vS w] (qH L z k 0 0) := by
  have c := c_rTake L z k w hL
  refine qc_of (wp_eq2 (X_rNeed_eq ..) ?_)
  cases hb : isW (tx w) (L.drop k) with
  | true =>
    rw [tkH, hb] at c
    have hd : L.drop (k + 1) = (L.drop k).tail ∧ k + 1 ≤ L.length := by
      cases hD : L.drop k with
      | nil => rw [hD] at hb; cases hb
      | cons t r => exact ⟨(dropc hD).2.2, (dropc hD).1⟩
    exact ⟨true, _, _, _, _, _, c, wp_if2 nf (fun _ => ⟨rfl, qq_ok (k := k + 1) (by unfold need; rw [if_pos hb]) hd.1 hd.2 rfl⟩)⟩
  | false =>
    rw [tkH, hb] at c
    have hn : need z (tx w) (L.drop k) = .no 11 (pl z (L.drop k)) := by unfold need; rw [if_neg (by rw [hb]; decide)]
    refine ⟨false, _, _, _, _, _, c, wp_if2 (fun _ => wp_if2 (fun _ => ?_) (fun h => absurd h (by decide))) tf⟩
    cases hD : L.drop k with
    | nil =>
      rw [hD] at hn
      exact wp_if2 (lt_len hD) (fun _ => ⟨rfl, rfl, rfl, qq_no (k := k) (e := 11) hn (by decide) rfl⟩)
    | cons t r =>
      rw [hD] at hn
      exact wp_if2 (fun _ => ⟨_, _, _, _, rowk (dropc hD).2.1, rfl, rfl, rfl, qq_no (k := k) (e := 11) hn (by decide) rfl⟩) (not_lt hD)
theorem b_rNeed {L : List Tok} {z : Nat} {w : ByteArray} : QB shUnit f_waferref05_Reader_Need [.ptr 0 0, vS w] L z := qb_of fun k e p he =>
  wp_eq2 (X_rNeed_eq ..) ⟨false, _, _, _, _, _, b_rTake L z k e p w he, wp_if2 (fun _ => wp_if2 (fun h => by rw [eq0i he] at h; cases h) (fun _ => ⟨rfl, rfl, _, rfl, rfl⟩)) tf⟩
/-- Does a point stand behind the next one? -/
def dotB (l : List Tok) : Bool :=
  match l with
  | _ :: u :: _ => u.kind == 6 && decide (u.text = wDot)
  | _ => false
theorem c_rdotted {L : List Tok} {z k : Nat} (e p : Nat) (hL : L.length < BIG) (hk : k < L.length) : evp f_waferref05_Reader_dotted [.ptr 0 0] .none (qH L z k e p) = some ⟨.ret (vB (dotB (L.drop k))), .none, qH L z k e p⟩ := by
  have h2 : IntKind.i64.wrap ((k : Int) + 1) = ((k + 1 : Nat) : Int) := wrapU (by omega)
  refine kt5_is (wp_eq2 (X_rdotted_eq ..) ?_)
  rw [h2, List.drop_eq_getElem_cons hk]
  cases hD : L.drop (k + 1) with
  | nil => exact wp_if2 (lt_len hD) (fun _ => ⟨rfl, rfl⟩)
  | cons t r =>
    obtain ⟨d1, d2, d3⟩ := dropc hD
    have e6 : ((t.kind : Int) == 6) = (t.kind == 6) := kq _ 6
    refine wp_if2 (fun _ => ⟨_, _, _, _, rowk d2, ?_⟩) (not_lt hD)
    rw [e6]
    refine wp_if2 (fun h => ⟨_, _, _, _, rowk d2, rfl, retH (congrArg vB ?_)⟩) (fun h => ⟨rfl, retH (congrArg vB ?_)⟩)
    · rw [beq_tx]
      show _ = (t.kind == 6 && decide (t.text = wDot))
      rw [h, Bool.true_and]
      exact decide_eq_decide.2 Iff.rfl
    · simp [dotB, h]
end Go.Proofs
end

section
/- TREES, printed by kt.py out of y4.txt -/
open Go Go.Eng
namespace Go.Proofs
set_option linter.unusedVariables false
set_option maxRecDepth 100000
@[irreducible] noncomputable def Y_rpairTy (l : List (List AV)) (z a e b : Int) (i : Int) (s : ByteArray) (l1 l2 l3 : List (List AV)) (i1 i2 i3 i4 : Int) : KT := ((((((((((kt5 f_waferref05_Reader_pairTy [.ptr 0 0] [[.slice 4 l .no, vI z, vI a, vI e, vI b]]).I i).S s).R l1).R l2).R l3).I i1).I i2).I i3).I i4).T
@[irreducible] noncomputable def Y_rpath (l : List (List AV)) (z a e b : Int) (lo : Bool) : KT := kt5 f_waferref05_Reader_path [.ptr 0 0, vB lo] [[.slice 4 l .no, vI z, vI a, vI e, vI b]]
@[irreducible] noncomputable def Y_rpA1 (l : List (List AV)) (z a e b : Int) (lo : Bool) (m : List (List AV)) (f z' a' e' b' : Int) (b1 b2 : Bool) : St → KT := (((((Y_rpath l z a e b lo).round Pg cfg0 rs0 kc5 ⟨tm2 85 [(0, (.ptr 0 0)), (1, (vB (lo))), (5, (.slice 0 [] .full)), (6, (vI (f)))], lm2 85 [], ⟨[[(.slice 4 (m) .no), (vI (z')), (vI (a')), (vI (e')), (vI (b'))]], [], .none, 1⟩⟩).B b1).T.T.B b2).T.F.T.K)
@[irreducible] noncomputable def Y_rpA2 (l : List (List AV)) (z a e b : Int) (lo : Bool) (m : List (List AV)) (f z' a' e' b' : Int) (b1 : Bool) : St → KT := ((((Y_rpath l z a e b lo).round Pg cfg0 rs0 kc5 ⟨tm2 85 [(0, (.ptr 0 0)), (1, (vB (lo))), (5, (.slice 0 [] .full)), (6, (vI (f)))], lm2 85 [], ⟨[[(.slice 4 (m) .no), (vI (z')), (vI (a')), (vI (e')), (vI (b'))]], [], .none, 1⟩⟩).B b1).T.F.T.K)
@[irreducible] noncomputable def Y_rpB1 (l : List (List AV)) (z a e b : Int) (lo : Bool) (p : List (List AV)) (m : List (List AV)) (f z' a' e' b' : Int) (b1 b2 : Bool) : St → KT := (((((Y_rpath l z a e b lo).round Pg cfg0 rs0 kc5 ⟨tm2 85 [(0, (.ptr 0 0)), (1, (vB (lo))), (5, (.slice 1 p .yes)), (6, (vI (f)))], lm2 85 [], ⟨[[(.slice 4 (m) .no), (vI (z')), (vI (a')), (vI (e')), (vI (b'))]], [], .none, 1⟩⟩).B b1).T.T.B b2).T.F.T.K)
@[irreducible] noncomputable def Y_rpB2 (l : List (List AV)) (z a e b : Int) (lo : Bool) (p : List (List AV)) (m : List (List AV)) (f z' a' e' b' : Int) (b1 : Bool) : St → KT := ((((Y_rpath l z a e b lo).round Pg cfg0 rs0 kc5 ⟨tm2 85 [(0, (.ptr 0 0)), (1, (vB (lo))), (5, (.slice 1 p .yes)), (6, (vI (f)))], lm2 85 [], ⟨[[(.slice 4 (m) .no), (vI (z')), (vI (a')), (vI (e')), (vI (b'))]], [], .none, 1⟩⟩).B b1).T.F.T.K)
theorem X_rpairTyA_eq (l : List (List AV)) (z : Int) (a : Int) (e : Int) (b : Int) (i : Int) (s : ByteArray) (l1 : List (List AV)) (l2 : List (List AV)) (l3 : List (List AV)) (i1 : Int) (i2 : Int) (i3 : Int) (i4 : Int) (k : Int) (n : ByteArray) (p : List (List AV)) (q : List (List AV)) (m : List (List AV)) (z' : Int) (a' : Int) (e' : Int) (b' : Int) : KT.round Pg cfg0 rs0 kc5 (Y_rpairTy l z a e b i s l1 l2 l3 i1 i2 i3 i4) { tmps := tm2 14 [(0, AV.ptr 0 0), (2, AV.lp 2 0 0), (3, AV.lp 3 0 0)], lh := lm2 14 [(2, 0, [vI 0, vS (⟨#[]⟩ : ByteArray), AV.slice 0 [] Own.full, AV.slice 0 [] Own.full]), (3, 0, [vI k, vS n, AV.slice 1 p Own.no, AV.slice 4 q Own.no])], g := { H := [[AV.slice 4 m Own.no, vI z', vI a', vI e', vI b']], defers := [], rm := RM.none, base := 1 } } =
 (.exB fun b1 =>
 (.exR fun l4 =>
 (.exI fun i5 =>
 (.exI fun i6 =>
 (.exI fun i7 =>
 (.exI fun i8 =>
 (.call f_waferref05_Reader_Take [(.ptr 0 0), (vS ((⟨#[42]⟩ : ByteArray)))] .none [[(.slice 4 (m) .no), (vI (z')), (vI (a')), (vI (e')), (vI (b'))]] ⟨(.ret (vB (b1))), .none, [[(.slice 4 (l4) .no), (vI (i5)), (vI (i6)), (vI (i7)), (vI (i8))]]⟩
 (.branch (b1)
 (.exI fun i9 =>
 (.exS fun s1 =>
 (.exR fun l5 =>
 (.exR fun l6 =>
 (.exR fun l7 =>
 (.exI fun i10 =>
 (.exI fun i11 =>
 (.exI fun i12 =>
 (.exI fun i13 =>
 (.call f_waferref05_Reader_atomTy [(.ptr 0 0)] .none [[(.slice 4 (l4) .no), (vI (i5)), (vI (i6)), (vI (i7)), (vI (i8))]] ⟨(.ret (.agg [(vI (i9)), (vS (s1)), (.slice 1 (l5) .no), (.slice 4 (l6) .no)])), .none, [[(.slice 4 (l7) .no), (vI (i10)), (vI (i11)), (vI (i12)), (vI (i13))]]⟩
 (.done ⟨tm2 14 [(0, (.ptr 0 0)), (2, (.lp 2 0 0)), (3, (.lp 3 0 0))], lm2 14 [(2, (0, [(vI (0)), (vS ((⟨#[]⟩ : ByteArray))), (.slice 0 [] .full), (.slice 0 [] .full)])), (3, (0, [(vI (4)), (vS ((⟨#[]⟩ : ByteArray))), (.slice 0 [] .full), (.slice 4 [[(vI (k)), (vS (n)), (.slice 1 (p) .no), (.slice 4 (q) .no)], [(vI (i9)), (vS (s1)), (.slice 1 (l5) .no), (.slice 4 (l6) .no)]] .full)]))], ⟨[[(.slice 4 (l7) .no), (vI (i10)), (vI (i11)), (vI (i12)), (vI (i13))]], [], .none, 1⟩⟩)))))))))))
 (.out (.need true
 (.ret ⟨(.ret (.agg [(vI (k)), (vS (n)), (.slice 1 (p) .no), (.slice 4 (q) .no)])), .none, [[(.slice 4 (l4) .no), (vI (i5)), (vI (i6)), (vI (i7)), (vI (i8))]]⟩))))))))))) := by kernel_rfl
theorem X_rpairTyB_eq (l : List (List AV)) (z : Int) (a : Int) (e : Int) (b : Int) (i : Int) (s : ByteArray) (l1 : List (List AV)) (l2 : List (List AV)) (l3 : List (List AV)) (i1 : Int) (i2 : Int) (i3 : Int) (i4 : Int) (r1 : List AV) (r2 : List AV) (m : List (List AV)) (z' : Int) (a' : Int) (e' : Int) (b' : Int) : KT.round Pg cfg0 rs0 kc5 (Y_rpairTy l z a e b i s l1 l2 l3 i1 i2 i3 i4) { tmps := tm2 14 [(0, AV.ptr 0 0), (2, AV.lp 2 0 0), (3, AV.lp 3 0 0)], lh := lm2 14 [(2, 0, [vI 0, vS (⟨#[]⟩ : ByteArray), AV.slice 0 [] Own.full, AV.slice 0 [] Own.full]), (3, 0, [vI 4, vS (⟨#[]⟩ : ByteArray), AV.slice 0 [] Own.full, AV.slice 4 [r1, r2] Own.full])], g := { H := [[AV.slice 4 m Own.no, vI z', vI a', vI e', vI b']], defers := [], rm := RM.none, base := 1 } } =
 (.exB fun b1 =>
 (.exR fun l4 =>
 (.exI fun i5 =>
 (.exI fun i6 =>
 (.exI fun i7 =>
 (.exI fun i8 =>
 (.call f_waferref05_Reader_Take [(.ptr 0 0), (vS ((⟨#[42]⟩ : ByteArray)))] .none [[(.slice 4 (m) .no), (vI (z')), (vI (a')), (vI (e')), (vI (b'))]] ⟨(.ret (vB (b1))), .none, [[(.slice 4 (l4) .no), (vI (i5)), (vI (i6)), (vI (i7)), (vI (i8))]]⟩
 (.branch (b1)
 (.exI fun i9 =>
 (.exS fun s1 =>
 (.exR fun l5 =>
 (.exR fun l6 =>
 (.exR fun l7 =>
 (.exI fun i10 =>
 (.exI fun i11 =>
 (.exI fun i12 =>
 (.exI fun i13 =>
 (.call f_waferref05_Reader_atomTy [(.ptr 0 0)] .none [[(.slice 4 (l4) .no), (vI (i5)), (vI (i6)), (vI (i7)), (vI (i8))]] ⟨(.ret (.agg [(vI (i9)), (vS (s1)), (.slice 1 (l5) .no), (.slice 4 (l6) .no)])), .none, [[(.slice 4 (l7) .no), (vI (i10)), (vI (i11)), (vI (i12)), (vI (i13))]]⟩
 (.done ⟨tm2 14 [(0, (.ptr 0 0)), (2, (.lp 2 0 0)), (3, (.lp 3 0 0))], lm2 14 [(2, (0, [(vI (0)), (vS ((⟨#[]⟩ : ByteArray))), (.slice 0 [] .full), (.slice 0 [] .full)])), (3, (0, [(vI (4)), (vS ((⟨#[]⟩ : ByteArray))), (.slice 0 [] .full), (.slice 4 [[(vI (4)), (vS ((⟨#[]⟩ : ByteArray))), (.slice 1 [] .no), (.slice 4 [(r1), (r2)] .no)], [(vI (i9)), (vS (s1)), (.slice 1 (l5) .no), (.slice 4 (l6) .no)]] .full)]))], ⟨[[(.slice 4 (l7) .no), (vI (i10)), (vI (i11)), (vI (i12)), (vI (i13))]], [], .none, 1⟩⟩)))))))))))
 (.out (.need true
 (.ret ⟨(.ret (.agg [(vI (4)), (vS ((⟨#[]⟩ : ByteArray))), (.slice 1 [] .no), (.slice 4 [(r1), (r2)] .no)])), .none, [[(.slice 4 (l4) .no), (vI (i5)), (vI (i6)), (vI (i7)), (vI (i8))]]⟩))))))))))) := by kernel_rfl
@[irreducible] noncomputable def X_rpathA (l : List (List AV)) (z : Int) (a : Int) (e : Int) (b : Int) (lo : Bool) (m : List (List AV)) (f : Int) (z' : Int) (a' : Int) (e' : Int) (b' : Int) : KT := KT.round Pg cfg0 rs0 kc5 (Y_rpath l z a e b lo) { tmps := tm2 85 [(0, AV.ptr 0 0), (1, vB lo), (5, AV.slice 0 [] Own.full), (6, vI f)], lh := lm2 85 [], g := { H := [[AV.slice 4 m Own.no, vI z', vI a', vI e', vI b']], defers := [], rm := RM.none, base := 1 } }
theorem X_rpathA_eq (l : List (List AV)) (z : Int) (a : Int) (e : Int) (b : Int) (lo : Bool) (m : List (List AV)) (f : Int) (z' : Int) (a' : Int) (e' : Int) (b' : Int) : KT.round Pg cfg0 rs0 kc5 (Y_rpath l z a e b lo) { tmps := tm2 85 [(0, AV.ptr 0 0), (1, vB lo), (5, AV.slice 0 [] Own.full), (6, vI f)], lh := lm2 85 [], g := { H := [[AV.slice 4 m Own.no, vI z', vI a', vI e', vI b']], defers := [], rm := RM.none, base := 1 } } =
 (.exB fun b1 =>
 (.call f_waferref05_Reader_kind [(.ptr 0 0), (vI (2))] .none [[(.slice 4 (m) .no), (vI (z')), (vI (a')), (vI (e')), (vI (b'))]] ⟨(.ret (vB (b1))), .none, [[(.slice 4 (m) .no), (vI (z')), (vI (a')), (vI (e')), (vI (b'))]]⟩
 (.branch (b1)
 (.exB fun b2 =>
 (.call f_waferref05_Reader_dotted [(.ptr 0 0)] .none [[(.slice 4 (m) .no), (vI (z')), (vI (a')), (vI (e')), (vI (b'))]] ⟨(.ret (vB (b2))), .none, [[(.slice 4 (m) .no), (vI (z')), (vI (a')), (vI (e')), (vI (b'))]]⟩
 (.branch (b2)
 (.exI fun i =>
 (.exS fun s =>
 (.exI fun i1 =>
 (.exI fun i2 =>
 (.row (m) (a') [(vI (i)), (vS (s)), (vI (i1)), (vI (i2))]
 (.need true
 (.done ⟨tm2 85 [(0, (.ptr 0 0)), (1, (vB (lo))), (5, (.slice 1 [[(vS (s))]] .yes)), (6, (vI (f)))], lm2 85 [], ⟨[[(.slice 4 (m) .no), (vI (z')), (vI (IntKind.i64.wrap (a' + 2))), (vI (e')), (vI (b'))]], [], .none, 1⟩⟩)))))))
 (.out (.stage
 (.branch (lo)
 (.exB fun b3 =>
 (.call f_waferref05_Reader_kind [(.ptr 0 0), (vI (1))] .none [[(.slice 4 (m) .no), (vI (z')), (vI (a')), (vI (e')), (vI (b'))]] ⟨(.ret (vB (b3))), .none, [[(.slice 4 (m) .no), (vI (z')), (vI (a')), (vI (e')), (vI (b'))]]⟩
 (.branch (b3)
 (.exI fun i =>
 (.exS fun s =>
 (.exI fun i1 =>
 (.exI fun i2 =>
 (.row (m) (IntKind.i64.wrap (IntKind.i64.wrap (a' + 1) - 1)) [(vI (i)), (vS (s)), (vI (i1)), (vI (i2))]
 (.need true
 (.done ⟨tm2 85 [(0, (.ptr 0 0)), (5, (.slice 1 [[(vS (s))]] .yes)), (6, (vI (f)))], lm2 85 [], ⟨[[(.slice 4 (m) .no), (vI (z')), (vI (IntKind.i64.wrap (a' + 1))), (vI (e')), (vI (b'))]], [], .none, 1⟩⟩)))))))
 (.exB fun b4 =>
 (.call f_waferref05_Reader_kind [(.ptr 0 0), (vI (2))] .none [[(.slice 4 (m) .no), (vI (z')), (vI (a')), (vI (e')), (vI (b'))]] ⟨(.ret (vB (b4))), .none, [[(.slice 4 (m) .no), (vI (z')), (vI (a')), (vI (e')), (vI (b'))]]⟩
 (.branch (b4)
 (.exI fun i =>
 (.exS fun s =>
 (.exI fun i1 =>
 (.exI fun i2 =>
 (.row (m) (IntKind.i64.wrap (IntKind.i64.wrap (a' + 1) - 1)) [(vI (i)), (vS (s)), (vI (i1)), (vI (i2))]
 (.need true
 (.done ⟨tm2 85 [(0, (.ptr 0 0)), (5, (.slice 1 [[(vS (s))]] .yes)), (6, (vI (f)))], lm2 85 [], ⟨[[(.slice 4 (m) .no), (vI (z')), (vI (IntKind.i64.wrap (a' + 1))), (vI (e')), (vI (b'))]], [], .none, 1⟩⟩)))))))
 (.branch (decide ((↑([] : List (List AV)).length : Int) ≤ 8))
 (.branch (e' == 0)
 (.branch (decide (a' < (↑m.length : Int)))
 (.exI fun i =>
 (.exS fun s =>
 (.exI fun i1 =>
 (.exI fun i2 =>
 (.row (m) (a') [(vI (i)), (vS (s)), (vI (i1)), (vI (i2))]
 (.need true
 (.need true
 (.done ⟨tm2 85 [(0, (.ptr 0 0)), (5, (.slice 0 [] .full)), (6, (vI (f)))], lm2 85 [], ⟨[[(.slice 4 (m) .no), (vI (z')), (vI (a')), (vI (11)), (vI (i2))]], [], .none, 1⟩⟩))))))))
 (.need true
 (.need true
 (.done ⟨tm2 85 [(0, (.ptr 0 0)), (5, (.slice 0 [] .full)), (6, (vI (f)))], lm2 85 [], ⟨[[(.slice 4 (m) .no), (vI (z')), (vI (a')), (vI (11)), (vI (z'))]], [], .none, 1⟩⟩))))
 (.need true
 (.done ⟨tm2 85 [(0, (.ptr 0 0)), (5, (.slice 0 [] .full)), (6, (vI (f)))], lm2 85 [], ⟨[[(.slice 4 (m) .no), (vI (z')), (vI (a')), (vI (e')), (vI (b'))]], [], .none, 1⟩⟩)))
 (.done ⟨tm2 85 [(0, (.ptr 0 0)), (5, (.slice 0 [] .full)), (6, (vI (f)))], lm2 85 [], ⟨[[(.slice 4 (m) .no), (vI (z')), (vI (a')), (vI (e')), (vI (b'))]], [], .none, 1⟩⟩))))))))
 (.exB fun b3 =>
 (.call f_waferref05_Reader_kind [(.ptr 0 0), (vI (2))] .none [[(.slice 4 (m) .no), (vI (z')), (vI (a')), (vI (e')), (vI (b'))]] ⟨(.ret (vB (b3))), .none, [[(.slice 4 (m) .no), (vI (z')), (vI (a')), (vI (e')), (vI (b'))]]⟩
 (.branch (b3)
 (.exI fun i =>
 (.exS fun s =>
 (.exI fun i1 =>
 (.exI fun i2 =>
 (.row (m) (IntKind.i64.wrap (IntKind.i64.wrap (a' + 1) - 1)) [(vI (i)), (vS (s)), (vI (i1)), (vI (i2))]
 (.need true
 (.done ⟨tm2 85 [(0, (.ptr 0 0)), (5, (.slice 1 [[(vS (s))]] .yes)), (6, (vI (f)))], lm2 85 [], ⟨[[(.slice 4 (m) .no), (vI (z')), (vI (IntKind.i64.wrap (a' + 1))), (vI (e')), (vI (b'))]], [], .none, 1⟩⟩)))))))
 (.branch (decide ((↑([] : List (List AV)).length : Int) ≤ 8))
 (.branch (e' == 0)
 (.branch (decide (a' < (↑m.length : Int)))
 (.exI fun i =>
 (.exS fun s =>
 (.exI fun i1 =>
 (.exI fun i2 =>
 (.row (m) (a') [(vI (i)), (vS (s)), (vI (i1)), (vI (i2))]
 (.need true
 (.need true
 (.done ⟨tm2 85 [(0, (.ptr 0 0)), (5, (.slice 0 [] .full)), (6, (vI (f)))], lm2 85 [], ⟨[[(.slice 4 (m) .no), (vI (z')), (vI (a')), (vI (11)), (vI (i2))]], [], .none, 1⟩⟩))))))))
 (.need true
 (.need true
 (.done ⟨tm2 85 [(0, (.ptr 0 0)), (5, (.slice 0 [] .full)), (6, (vI (f)))], lm2 85 [], ⟨[[(.slice 4 (m) .no), (vI (z')), (vI (a')), (vI (11)), (vI (z'))]], [], .none, 1⟩⟩))))
 (.need true
 (.done ⟨tm2 85 [(0, (.ptr 0 0)), (5, (.slice 0 [] .full)), (6, (vI (f)))], lm2 85 [], ⟨[[(.slice 4 (m) .no), (vI (z')), (vI (a')), (vI (e')), (vI (b'))]], [], .none, 1⟩⟩)))
 (.done ⟨tm2 85 [(0, (.ptr 0 0)), (5, (.slice 0 [] .full)), (6, (vI (f)))], lm2 85 [], ⟨[[(.slice 4 (m) .no), (vI (z')), (vI (a')), (vI (e')), (vI (b'))]], [], .none, 1⟩⟩))))))
 ((((X_rpathA l z a e b lo m f z' a' e' b').B b1).T.T.B b2).T.F.T.K))))))
 (.out (.stage
 (.branch (lo)
 (.exB fun b2 =>
 (.call f_waferref05_Reader_kind [(.ptr 0 0), (vI (1))] .none [[(.slice 4 (m) .no), (vI (z')), (vI (a')), (vI (e')), (vI (b'))]] ⟨(.ret (vB (b2))), .none, [[(.slice 4 (m) .no), (vI (z')), (vI (a')), (vI (e')), (vI (b'))]]⟩
 (.branch (b2)
 (.exI fun i =>
 (.exS fun s =>
 (.exI fun i1 =>
 (.exI fun i2 =>
 (.row (m) (IntKind.i64.wrap (IntKind.i64.wrap (a' + 1) - 1)) [(vI (i)), (vS (s)), (vI (i1)), (vI (i2))]
 (.need true
 (.done ⟨tm2 85 [(0, (.ptr 0 0)), (5, (.slice 1 [[(vS (s))]] .yes)), (6, (vI (f)))], lm2 85 [], ⟨[[(.slice 4 (m) .no), (vI (z')), (vI (IntKind.i64.wrap (a' + 1))), (vI (e')), (vI (b'))]], [], .none, 1⟩⟩)))))))
 (.exB fun b3 =>
 (.call f_waferref05_Reader_kind [(.ptr 0 0), (vI (2))] .none [[(.slice 4 (m) .no), (vI (z')), (vI (a')), (vI (e')), (vI (b'))]] ⟨(.ret (vB (b3))), .none, [[(.slice 4 (m) .no), (vI (z')), (vI (a')), (vI (e')), (vI (b'))]]⟩
 (.branch (b3)
 (.exI fun i =>
 (.exS fun s =>
 (.exI fun i1 =>
 (.exI fun i2 =>
 (.row (m) (IntKind.i64.wrap (IntKind.i64.wrap (a' + 1) - 1)) [(vI (i)), (vS (s)), (vI (i1)), (vI (i2))]
 (.need true
 (.done ⟨tm2 85 [(0, (.ptr 0 0)), (5, (.slice 1 [[(vS (s))]] .yes)), (6, (vI (f)))], lm2 85 [], ⟨[[(.slice 4 (m) .no), (vI (z')), (vI (IntKind.i64.wrap (a' + 1))), (vI (e')), (vI (b'))]], [], .none, 1⟩⟩)))))))
 (.branch (decide ((↑([] : List (List AV)).length : Int) ≤ 8))
 (.branch (e' == 0)
 (.branch (decide (a' < (↑m.length : Int)))
 (.exI fun i =>
 (.exS fun s =>
 (.exI fun i1 =>
 (.exI fun i2 =>
 (.row (m) (a') [(vI (i)), (vS (s)), (vI (i1)), (vI (i2))]
 (.need true
 (.need true
 (.done ⟨tm2 85 [(0, (.ptr 0 0)), (5, (.slice 0 [] .full)), (6, (vI (f)))], lm2 85 [], ⟨[[(.slice 4 (m) .no), (vI (z')), (vI (a')), (vI (11)), (vI (i2))]], [], .none, 1⟩⟩))))))))
 (.need true
 (.need true
 (.done ⟨tm2 85 [(0, (.ptr 0 0)), (5, (.slice 0 [] .full)), (6, (vI (f)))], lm2 85 [], ⟨[[(.slice 4 (m) .no), (vI (z')), (vI (a')), (vI (11)), (vI (z'))]], [], .none, 1⟩⟩))))
 (.need true
 (.done ⟨tm2 85 [(0, (.ptr 0 0)), (5, (.slice 0 [] .full)), (6, (vI (f)))], lm2 85 [], ⟨[[(.slice 4 (m) .no), (vI (z')), (vI (a')), (vI (e')), (vI (b'))]], [], .none, 1⟩⟩)))
 (.done ⟨tm2 85 [(0, (.ptr 0 0)), (5, (.slice 0 [] .full)), (6, (vI (f)))], lm2 85 [], ⟨[[(.slice 4 (m) .no), (vI (z')), (vI (a')), (vI (e')), (vI (b'))]], [], .none, 1⟩⟩))))))))
 (.exB fun b2 =>
 (.call f_waferref05_Reader_kind [(.ptr 0 0), (vI (2))] .none [[(.slice 4 (m) .no), (vI (z')), (vI (a')), (vI (e')), (vI (b'))]] ⟨(.ret (vB (b2))), .none, [[(.slice 4 (m) .no), (vI (z')), (vI (a')), (vI (e')), (vI (b'))]]⟩
 (.branch (b2)
 (.exI fun i =>
 (.exS fun s =>
 (.exI fun i1 =>
 (.exI fun i2 =>
 (.row (m) (IntKind.i64.wrap (IntKind.i64.wrap (a' + 1) - 1)) [(vI (i)), (vS (s)), (vI (i1)), (vI (i2))]
 (.need true
 (.done ⟨tm2 85 [(0, (.ptr 0 0)), (5, (.slice 1 [[(vS (s))]] .yes)), (6, (vI (f)))], lm2 85 [], ⟨[[(.slice 4 (m) .no), (vI (z')), (vI (IntKind.i64.wrap (a' + 1))), (vI (e')), (vI (b'))]], [], .none, 1⟩⟩)))))))
 (.branch (decide ((↑([] : List (List AV)).length : Int) ≤ 8))
 (.branch (e' == 0)
 (.branch (decide (a' < (↑m.length : Int)))
 (.exI fun i =>
 (.exS fun s =>
 (.exI fun i1 =>
 (.exI fun i2 =>
 (.row (m) (a') [(vI (i)), (vS (s)), (vI (i1)), (vI (i2))]
 (.need true
 (.need true
 (.done ⟨tm2 85 [(0, (.ptr 0 0)), (5, (.slice 0 [] .full)), (6, (vI (f)))], lm2 85 [], ⟨[[(.slice 4 (m) .no), (vI (z')), (vI (a')), (vI (11)), (vI (i2))]], [], .none, 1⟩⟩))))))))
 (.need true
 (.need true
 (.done ⟨tm2 85 [(0, (.ptr 0 0)), (5, (.slice 0 [] .full)), (6, (vI (f)))], lm2 85 [], ⟨[[(.slice 4 (m) .no), (vI (z')), (vI (a')), (vI (11)), (vI (z'))]], [], .none, 1⟩⟩))))
 (.need true
 (.done ⟨tm2 85 [(0, (.ptr 0 0)), (5, (.slice 0 [] .full)), (6, (vI (f)))], lm2 85 [], ⟨[[(.slice 4 (m) .no), (vI (z')), (vI (a')), (vI (e')), (vI (b'))]], [], .none, 1⟩⟩)))
 (.done ⟨tm2 85 [(0, (.ptr 0 0)), (5, (.slice 0 [] .full)), (6, (vI (f)))], lm2 85 [], ⟨[[(.slice 4 (m) .no), (vI (z')), (vI (a')), (vI (e')), (vI (b'))]], [], .none, 1⟩⟩))))))
 (((X_rpathA l z a e b lo m f z' a' e' b').B b1).T.F.T.K)))))) := by kernel_rfl
-- STAGE X_rpathAs2: told for any #[q2x0, q2x1, q2x2, q2x3, q2x4, q2x5]
-- STAGE X_rpathAs1: told for any #[q1x0, q1x1, q1x2, q1x3, q1x4, q1x5]
@[irreducible] noncomputable def X_rpathB (l : List (List AV)) (z : Int) (a : Int) (e : Int) (b : Int) (lo : Bool) (p : List (List AV)) (m : List (List AV)) (f : Int) (z' : Int) (a' : Int) (e' : Int) (b' : Int) : KT := KT.round Pg cfg0 rs0 kc5 (Y_rpath l z a e b lo) { tmps := tm2 85 [(0, AV.ptr 0 0), (1, vB lo), (5, AV.slice 1 p Own.yes), (6, vI f)], lh := lm2 85 [], g := { H := [[AV.slice 4 m Own.no, vI z', vI a', vI e', vI b']], defers := [], rm := RM.none, base := 1 } }
theorem X_rpathB_eq (l : List (List AV)) (z : Int) (a : Int) (e : Int) (b : Int) (lo : Bool) (p : List (List AV)) (m : List (List AV)) (f : Int) (z' : Int) (a' : Int) (e' : Int) (b' : Int) : KT.round Pg cfg0 rs0 kc5 (Y_rpath l z a e b lo) { tmps := tm2 85 [(0, AV.ptr 0 0), (1, vB lo), (5, AV.slice 1 p Own.yes), (6, vI f)], lh := lm2 85 [], g := { H := [[AV.slice 4 m Own.no, vI z', vI a', vI e', vI b']], defers := [], rm := RM.none, base := 1 } } =
 (.exB fun b1 =>
 (.call f_waferref05_Reader_kind [(.ptr 0 0), (vI (2))] .none [[(.slice 4 (m) .no), (vI (z')), (vI (a')), (vI (e')), (vI (b'))]] ⟨(.ret (vB (b1))), .none, [[(.slice 4 (m) .no), (vI (z')), (vI (a')), (vI (e')), (vI (b'))]]⟩
 (.branch (b1)
 (.exB fun b2 =>
 (.call f_waferref05_Reader_dotted [(.ptr 0 0)] .none [[(.slice 4 (m) .no), (vI (z')), (vI (a')), (vI (e')), (vI (b'))]] ⟨(.ret (vB (b2))), .none, [[(.slice 4 (m) .no), (vI (z')), (vI (a')), (vI (e')), (vI (b'))]]⟩
 (.branch (b2)
 (.exI fun i =>
 (.exS fun s =>
 (.exI fun i1 =>
 (.exI fun i2 =>
 (.row (m) (a') [(vI (i)), (vS (s)), (vI (i1)), (vI (i2))]
 (.need ((p.length + [[normS Pg y_string (AV.val (Value.string s)).dis]].length).ble 2147483648)
 (.done ⟨tm2 85 [(0, (.ptr 0 0)), (1, (vB (lo))), (5, (.slice 1 (p ++ List.map (fun x => List.map AV.dis x) [[normS Pg y_string (AV.val (Value.string s)).dis]]) .yes)), (6, (vI (f)))], lm2 85 [], ⟨[[(.slice 4 (m) .no), (vI (z')), (vI (IntKind.i64.wrap (a' + 2))), (vI (e')), (vI (b'))]], [], .none, 1⟩⟩)))))))
 (.out (.stage
 (.branch (lo)
 (.exB fun b3 =>
 (.call f_waferref05_Reader_kind [(.ptr 0 0), (vI (1))] .none [[(.slice 4 (m) .no), (vI (z')), (vI (a')), (vI (e')), (vI (b'))]] ⟨(.ret (vB (b3))), .none, [[(.slice 4 (m) .no), (vI (z')), (vI (a')), (vI (e')), (vI (b'))]]⟩
 (.branch (b3)
 (.exI fun i =>
 (.exS fun s =>
 (.exI fun i1 =>
 (.exI fun i2 =>
 (.row (m) (IntKind.i64.wrap (IntKind.i64.wrap (a' + 1) - 1)) [(vI (i)), (vS (s)), (vI (i1)), (vI (i2))]
 (.need ((p.length + [[normS Pg y_string (AV.val (Value.string s)).dis]].length).ble 2147483648)
 (.done ⟨tm2 85 [(0, (.ptr 0 0)), (5, (.slice 1 (p ++ List.map (fun x => List.map AV.dis x) [[normS Pg y_string (AV.val (Value.string s)).dis]]) .yes)), (6, (vI (f)))], lm2 85 [], ⟨[[(.slice 4 (m) .no), (vI (z')), (vI (IntKind.i64.wrap (a' + 1))), (vI (e')), (vI (b'))]], [], .none, 1⟩⟩)))))))
 (.exB fun b4 =>
 (.call f_waferref05_Reader_kind [(.ptr 0 0), (vI (2))] .none [[(.slice 4 (m) .no), (vI (z')), (vI (a')), (vI (e')), (vI (b'))]] ⟨(.ret (vB (b4))), .none, [[(.slice 4 (m) .no), (vI (z')), (vI (a')), (vI (e')), (vI (b'))]]⟩
 (.branch (b4)
 (.exI fun i =>
 (.exS fun s =>
 (.exI fun i1 =>
 (.exI fun i2 =>
 (.row (m) (IntKind.i64.wrap (IntKind.i64.wrap (a' + 1) - 1)) [(vI (i)), (vS (s)), (vI (i1)), (vI (i2))]
 (.need ((p.length + [[normS Pg y_string (AV.val (Value.string s)).dis]].length).ble 2147483648)
 (.done ⟨tm2 85 [(0, (.ptr 0 0)), (5, (.slice 1 (p ++ List.map (fun x => List.map AV.dis x) [[normS Pg y_string (AV.val (Value.string s)).dis]]) .yes)), (6, (vI (f)))], lm2 85 [], ⟨[[(.slice 4 (m) .no), (vI (z')), (vI (IntKind.i64.wrap (a' + 1))), (vI (e')), (vI (b'))]], [], .none, 1⟩⟩)))))))
 (.branch (decide ((↑p.length : Int) ≤ 8))
 (.branch (e' == 0)
 (.branch (decide (a' < (↑m.length : Int)))
 (.exI fun i =>
 (.exS fun s =>
 (.exI fun i1 =>
 (.exI fun i2 =>
 (.row (m) (a') [(vI (i)), (vS (s)), (vI (i1)), (vI (i2))]
 (.need true
 (.need true
 (.done ⟨tm2 85 [(0, (.ptr 0 0)), (5, (.slice 1 (p) .yes)), (6, (vI (f)))], lm2 85 [], ⟨[[(.slice 4 (m) .no), (vI (z')), (vI (a')), (vI (11)), (vI (i2))]], [], .none, 1⟩⟩))))))))
 (.need true
 (.need true
 (.done ⟨tm2 85 [(0, (.ptr 0 0)), (5, (.slice 1 (p) .yes)), (6, (vI (f)))], lm2 85 [], ⟨[[(.slice 4 (m) .no), (vI (z')), (vI (a')), (vI (11)), (vI (z'))]], [], .none, 1⟩⟩))))
 (.need true
 (.done ⟨tm2 85 [(0, (.ptr 0 0)), (5, (.slice 1 (p) .yes)), (6, (vI (f)))], lm2 85 [], ⟨[[(.slice 4 (m) .no), (vI (z')), (vI (a')), (vI (e')), (vI (b'))]], [], .none, 1⟩⟩)))
 (.done ⟨tm2 85 [(0, (.ptr 0 0)), (5, (.slice 1 (p) .yes)), (6, (vI (f)))], lm2 85 [], ⟨[[(.slice 4 (m) .no), (vI (z')), (vI (a')), (vI (e')), (vI (b'))]], [], .none, 1⟩⟩))))))))
 (.exB fun b3 =>
 (.call f_waferref05_Reader_kind [(.ptr 0 0), (vI (2))] .none [[(.slice 4 (m) .no), (vI (z')), (vI (a')), (vI (e')), (vI (b'))]] ⟨(.ret (vB (b3))), .none, [[(.slice 4 (m) .no), (vI (z')), (vI (a')), (vI (e')), (vI (b'))]]⟩
 (.branch (b3)
 (.exI fun i =>
 (.exS fun s =>
 (.exI fun i1 =>
 (.exI fun i2 =>
 (.row (m) (IntKind.i64.wrap (IntKind.i64.wrap (a' + 1) - 1)) [(vI (i)), (vS (s)), (vI (i1)), (vI (i2))]
 (.need ((p.length + [[normS Pg y_string (AV.val (Value.string s)).dis]].length).ble 2147483648)
 (.done ⟨tm2 85 [(0, (.ptr 0 0)), (5, (.slice 1 (p ++ List.map (fun x => List.map AV.dis x) [[normS Pg y_string (AV.val (Value.string s)).dis]]) .yes)), (6, (vI (f)))], lm2 85 [], ⟨[[(.slice 4 (m) .no), (vI (z')), (vI (IntKind.i64.wrap (a' + 1))), (vI (e')), (vI (b'))]], [], .none, 1⟩⟩)))))))
 (.branch (decide ((↑p.length : Int) ≤ 8))
 (.branch (e' == 0)
 (.branch (decide (a' < (↑m.length : Int)))
 (.exI fun i =>
 (.exS fun s =>
 (.exI fun i1 =>
 (.exI fun i2 =>
 (.row (m) (a') [(vI (i)), (vS (s)), (vI (i1)), (vI (i2))]
 (.need true
 (.need true
 (.done ⟨tm2 85 [(0, (.ptr 0 0)), (5, (.slice 1 (p) .yes)), (6, (vI (f)))], lm2 85 [], ⟨[[(.slice 4 (m) .no), (vI (z')), (vI (a')), (vI (11)), (vI (i2))]], [], .none, 1⟩⟩))))))))
 (.need true
 (.need true
 (.done ⟨tm2 85 [(0, (.ptr 0 0)), (5, (.slice 1 (p) .yes)), (6, (vI (f)))], lm2 85 [], ⟨[[(.slice 4 (m) .no), (vI (z')), (vI (a')), (vI (11)), (vI (z'))]], [], .none, 1⟩⟩))))
 (.need true
 (.done ⟨tm2 85 [(0, (.ptr 0 0)), (5, (.slice 1 (p) .yes)), (6, (vI (f)))], lm2 85 [], ⟨[[(.slice 4 (m) .no), (vI (z')), (vI (a')), (vI (e')), (vI (b'))]], [], .none, 1⟩⟩)))
 (.done ⟨tm2 85 [(0, (.ptr 0 0)), (5, (.slice 1 (p) .yes)), (6, (vI (f)))], lm2 85 [], ⟨[[(.slice 4 (m) .no), (vI (z')), (vI (a')), (vI (e')), (vI (b'))]], [], .none, 1⟩⟩))))))
 ((((X_rpathB l z a e b lo p m f z' a' e' b').B b1).T.T.B b2).T.F.T.K))))))
 (.out (.stage
 (.branch (lo)
 (.exB fun b2 =>
 (.call f_waferref05_Reader_kind [(.ptr 0 0), (vI (1))] .none [[(.slice 4 (m) .no), (vI (z')), (vI (a')), (vI (e')), (vI (b'))]] ⟨(.ret (vB (b2))), .none, [[(.slice 4 (m) .no), (vI (z')), (vI (a')), (vI (e')), (vI (b'))]]⟩
 (.branch (b2)
 (.exI fun i =>
 (.exS fun s =>
 (.exI fun i1 =>
 (.exI fun i2 =>
 (.row (m) (IntKind.i64.wrap (IntKind.i64.wrap (a' + 1) - 1)) [(vI (i)), (vS (s)), (vI (i1)), (vI (i2))]
 (.need ((p.length + [[normS Pg y_string (AV.val (Value.string s)).dis]].length).ble 2147483648)
 (.done ⟨tm2 85 [(0, (.ptr 0 0)), (5, (.slice 1 (p ++ List.map (fun x => List.map AV.dis x) [[normS Pg y_string (AV.val (Value.string s)).dis]]) .yes)), (6, (vI (f)))], lm2 85 [], ⟨[[(.slice 4 (m) .no), (vI (z')), (vI (IntKind.i64.wrap (a' + 1))), (vI (e')), (vI (b'))]], [], .none, 1⟩⟩)))))))
 (.exB fun b3 =>
 (.call f_waferref05_Reader_kind [(.ptr 0 0), (vI (2))] .none [[(.slice 4 (m) .no), (vI (z')), (vI (a')), (vI (e')), (vI (b'))]] ⟨(.ret (vB (b3))), .none, [[(.slice 4 (m) .no), (vI (z')), (vI (a')), (vI (e')), (vI (b'))]]⟩
 (.branch (b3)
 (.exI fun i =>
 (.exS fun s =>
 (.exI fun i1 =>
 (.exI fun i2 =>
 (.row (m) (IntKind.i64.wrap (IntKind.i64.wrap (a' + 1) - 1)) [(vI (i)), (vS (s)), (vI (i1)), (vI (i2))]
 (.need ((p.length + [[normS Pg y_string (AV.val (Value.string s)).dis]].length).ble 2147483648)
 (.done ⟨tm2 85 [(0, (.ptr 0 0)), (5, (.slice 1 (p ++ List.map (fun x => List.map AV.dis x) [[normS Pg y_string (AV.val (Value.string s)).dis]]) .yes)), (6, (vI (f)))], lm2 85 [], ⟨[[(.slice 4 (m) .no), (vI (z')), (vI (IntKind.i64.wrap (a' + 1))), (vI (e')), (vI (b'))]], [], .none, 1⟩⟩)))))))
 (.branch (decide ((↑p.length : Int) ≤ 8))
 (.branch (e' == 0)
 (.branch (decide (a' < (↑m.length : Int)))
 (.exI fun i =>
 (.exS fun s =>
 (.exI fun i1 =>
 (.exI fun i2 =>
 (.row (m) (a') [(vI (i)), (vS (s)), (vI (i1)), (vI (i2))]
 (.need true
 (.need true
 (.done ⟨tm2 85 [(0, (.ptr 0 0)), (5, (.slice 1 (p) .yes)), (6, (vI (f)))], lm2 85 [], ⟨[[(.slice 4 (m) .no), (vI (z')), (vI (a')), (vI (11)), (vI (i2))]], [], .none, 1⟩⟩))))))))
 (.need true
 (.need true
 (.done ⟨tm2 85 [(0, (.ptr 0 0)), (5, (.slice 1 (p) .yes)), (6, (vI (f)))], lm2 85 [], ⟨[[(.slice 4 (m) .no), (vI (z')), (vI (a')), (vI (11)), (vI (z'))]], [], .none, 1⟩⟩))))
 (.need true
 (.done ⟨tm2 85 [(0, (.ptr 0 0)), (5, (.slice 1 (p) .yes)), (6, (vI (f)))], lm2 85 [], ⟨[[(.slice 4 (m) .no), (vI (z')), (vI (a')), (vI (e')), (vI (b'))]], [], .none, 1⟩⟩)))
 (.done ⟨tm2 85 [(0, (.ptr 0 0)), (5, (.slice 1 (p) .yes)), (6, (vI (f)))], lm2 85 [], ⟨[[(.slice 4 (m) .no), (vI (z')), (vI (a')), (vI (e')), (vI (b'))]], [], .none, 1⟩⟩))))))))
 (.exB fun b2 =>
 (.call f_waferref05_Reader_kind [(.ptr 0 0), (vI (2))] .none [[(.slice 4 (m) .no), (vI (z')), (vI (a')), (vI (e')), (vI (b'))]] ⟨(.ret (vB (b2))), .none, [[(.slice 4 (m) .no), (vI (z')), (vI (a')), (vI (e')), (vI (b'))]]⟩
 (.branch (b2)
 (.exI fun i =>
 (.exS fun s =>
 (.exI fun i1 =>
 (.exI fun i2 =>
 (.row (m) (IntKind.i64.wrap (IntKind.i64.wrap (a' + 1) - 1)) [(vI (i)), (vS (s)), (vI (i1)), (vI (i2))]
 (.need ((p.length + [[normS Pg y_string (AV.val (Value.string s)).dis]].length).ble 2147483648)
 (.done ⟨tm2 85 [(0, (.ptr 0 0)), (5, (.slice 1 (p ++ List.map (fun x => List.map AV.dis x) [[normS Pg y_string (AV.val (Value.string s)).dis]]) .yes)), (6, (vI (f)))], lm2 85 [], ⟨[[(.slice 4 (m) .no), (vI (z')), (vI (IntKind.i64.wrap (a' + 1))), (vI (e')), (vI (b'))]], [], .none, 1⟩⟩)))))))
 (.branch (decide ((↑p.length : Int) ≤ 8))
 (.branch (e' == 0)
 (.branch (decide (a' < (↑m.length : Int)))
 (.exI fun i =>
 (.exS fun s =>
 (.exI fun i1 =>
 (.exI fun i2 =>
 (.row (m) (a') [(vI (i)), (vS (s)), (vI (i1)), (vI (i2))]
 (.need true
 (.need true
 (.done ⟨tm2 85 [(0, (.ptr 0 0)), (5, (.slice 1 (p) .yes)), (6, (vI (f)))], lm2 85 [], ⟨[[(.slice 4 (m) .no), (vI (z')), (vI (a')), (vI (11)), (vI (i2))]], [], .none, 1⟩⟩))))))))
 (.need true
 (.need true
 (.done ⟨tm2 85 [(0, (.ptr 0 0)), (5, (.slice 1 (p) .yes)), (6, (vI (f)))], lm2 85 [], ⟨[[(.slice 4 (m) .no), (vI (z')), (vI (a')), (vI (11)), (vI (z'))]], [], .none, 1⟩⟩))))
 (.need true
 (.done ⟨tm2 85 [(0, (.ptr 0 0)), (5, (.slice 1 (p) .yes)), (6, (vI (f)))], lm2 85 [], ⟨[[(.slice 4 (m) .no), (vI (z')), (vI (a')), (vI (e')), (vI (b'))]], [], .none, 1⟩⟩)))
 (.done ⟨tm2 85 [(0, (.ptr 0 0)), (5, (.slice 1 (p) .yes)), (6, (vI (f)))], lm2 85 [], ⟨[[(.slice 4 (m) .no), (vI (z')), (vI (a')), (vI (e')), (vI (b'))]], [], .none, 1⟩⟩))))))
 (((X_rpathB l z a e b lo p m f z' a' e' b').B b1).T.F.T.K)))))) := by kernel_rfl
theorem X_rpA1n_eq (l : List (List AV)) (z : Int) (a : Int) (e : Int) (b : Int) (lo : Bool) (m : List (List AV)) (f : Int) (z' : Int) (a' : Int) (e' : Int) (b' : Int) (b1 : Bool) (b2 : Bool) (m2 : List (List AV)) (z2 : Int) (a2 : Int) (e2 : Int) (c2 : Int) : Y_rpA1 l z a e b lo m f z' a' e' b' b1 b2 { tmps := tm2 85 [(0, AV.ptr 0 0), (5, AV.slice 0 [] Own.full), (6, vI f)], lh := lm2 85 [], g := { H := [[AV.slice 4 m2 Own.no, vI z2, vI a2, vI e2, vI c2]], defers := [], rm := RM.none, base := 1 } } =
 (.branch (decide ((↑([] : List (List AV)).length : Int) > 8))
 (.branch (e2 == 0)
 (.branch (decide (f < (↑m2.length : Int)))
 (.exI fun i =>
 (.exS fun s =>
 (.exI fun i1 =>
 (.exI fun i2 =>
 (.row (m2) (f) [(vI (i)), (vS (s)), (vI (i1)), (vI (i2))]
 (.need true
 (.need true
 (.need true
 (.ret ⟨(.ret (.slice 1 [] .no)), .none, [[(.slice 4 (m2) .no), (vI (z2)), (vI (f)), (vI (3)), (vI (i2))]]⟩)))))))))
 (.need true
 (.need true
 (.need true
 (.ret ⟨(.ret (.slice 1 [] .no)), .none, [[(.slice 4 (m2) .no), (vI (z2)), (vI (f)), (vI (3)), (vI (z2))]]⟩)))))
 (.need true
 (.need true
 (.ret ⟨(.ret (.slice 1 [] .no)), .none, [[(.slice 4 (m2) .no), (vI (z2)), (vI (f)), (vI (e2)), (vI (c2))]]⟩))))
 (.need true
 (.ret ⟨(.ret (.slice 1 [] .no)), .none, [[(.slice 4 (m2) .no), (vI (z2)), (vI (a2)), (vI (e2)), (vI (c2))]]⟩))) := by kernel_rfl
theorem X_rpA1y_eq (l : List (List AV)) (z : Int) (a : Int) (e : Int) (b : Int) (lo : Bool) (m : List (List AV)) (f : Int) (z' : Int) (a' : Int) (e' : Int) (b' : Int) (b1 : Bool) (b2 : Bool) (p2 : List (List AV)) (m2 : List (List AV)) (z2 : Int) (a2 : Int) (e2 : Int) (c2 : Int) : Y_rpA1 l z a e b lo m f z' a' e' b' b1 b2 { tmps := tm2 85 [(0, AV.ptr 0 0), (5, AV.slice 1 p2 Own.yes), (6, vI f)], lh := lm2 85 [], g := { H := [[AV.slice 4 m2 Own.no, vI z2, vI a2, vI e2, vI c2]], defers := [], rm := RM.none, base := 1 } } =
 (.branch (decide ((↑p2.length : Int) > 8))
 (.branch (e2 == 0)
 (.branch (decide (f < (↑m2.length : Int)))
 (.exI fun i =>
 (.exS fun s =>
 (.exI fun i1 =>
 (.exI fun i2 =>
 (.row (m2) (f) [(vI (i)), (vS (s)), (vI (i1)), (vI (i2))]
 (.need true
 (.need true
 (.need true
 (.ret ⟨(.ret (.slice 1 [] .no)), .none, [[(.slice 4 (m2) .no), (vI (z2)), (vI (f)), (vI (3)), (vI (i2))]]⟩)))))))))
 (.need true
 (.need true
 (.need true
 (.ret ⟨(.ret (.slice 1 [] .no)), .none, [[(.slice 4 (m2) .no), (vI (z2)), (vI (f)), (vI (3)), (vI (z2))]]⟩)))))
 (.need true
 (.need true
 (.ret ⟨(.ret (.slice 1 [] .no)), .none, [[(.slice 4 (m2) .no), (vI (z2)), (vI (f)), (vI (e2)), (vI (c2))]]⟩))))
 (.need true
 (.ret ⟨(.ret (.slice 1 (p2) .no)), .none, [[(.slice 4 (m2) .no), (vI (z2)), (vI (a2)), (vI (e2)), (vI (c2))]]⟩))) := by kernel_rfl
theorem X_rpA2n_eq (l : List (List AV)) (z : Int) (a : Int) (e : Int) (b : Int) (lo : Bool) (m : List (List AV)) (f : Int) (z' : Int) (a' : Int) (e' : Int) (b' : Int) (b1 : Bool) (m2 : List (List AV)) (z2 : Int) (a2 : Int) (e2 : Int) (c2 : Int) : Y_rpA2 l z a e b lo m f z' a' e' b' b1 { tmps := tm2 85 [(0, AV.ptr 0 0), (5, AV.slice 0 [] Own.full), (6, vI f)], lh := lm2 85 [], g := { H := [[AV.slice 4 m2 Own.no, vI z2, vI a2, vI e2, vI c2]], defers := [], rm := RM.none, base := 1 } } =
 (.branch (decide ((↑([] : List (List AV)).length : Int) > 8))
 (.branch (e2 == 0)
 (.branch (decide (f < (↑m2.length : Int)))
 (.exI fun i =>
 (.exS fun s =>
 (.exI fun i1 =>
 (.exI fun i2 =>
 (.row (m2) (f) [(vI (i)), (vS (s)), (vI (i1)), (vI (i2))]
 (.need true
 (.need true
 (.need true
 (.ret ⟨(.ret (.slice 1 [] .no)), .none, [[(.slice 4 (m2) .no), (vI (z2)), (vI (f)), (vI (3)), (vI (i2))]]⟩)))))))))
 (.need true
 (.need true
 (.need true
 (.ret ⟨(.ret (.slice 1 [] .no)), .none, [[(.slice 4 (m2) .no), (vI (z2)), (vI (f)), (vI (3)), (vI (z2))]]⟩)))))
 (.need true
 (.need true
 (.ret ⟨(.ret (.slice 1 [] .no)), .none, [[(.slice 4 (m2) .no), (vI (z2)), (vI (f)), (vI (e2)), (vI (c2))]]⟩))))
 (.need true
 (.ret ⟨(.ret (.slice 1 [] .no)), .none, [[(.slice 4 (m2) .no), (vI (z2)), (vI (a2)), (vI (e2)), (vI (c2))]]⟩))) := by kernel_rfl
theorem X_rpA2y_eq (l : List (List AV)) (z : Int) (a : Int) (e : Int) (b : Int) (lo : Bool) (m : List (List AV)) (f : Int) (z' : Int) (a' : Int) (e' : Int) (b' : Int) (b1 : Bool) (p2 : List (List AV)) (m2 : List (List AV)) (z2 : Int) (a2 : Int) (e2 : Int) (c2 : Int) : Y_rpA2 l z a e b lo m f z' a' e' b' b1 { tmps := tm2 85 [(0, AV.ptr 0 0), (5, AV.slice 1 p2 Own.yes), (6, vI f)], lh := lm2 85 [], g := { H := [[AV.slice 4 m2 Own.no, vI z2, vI a2, vI e2, vI c2]], defers := [], rm := RM.none, base := 1 } } =
 (.branch (decide ((↑p2.length : Int) > 8))
 (.branch (e2 == 0)
 (.branch (decide (f < (↑m2.length : Int)))
 (.exI fun i =>
 (.exS fun s =>
 (.exI fun i1 =>
 (.exI fun i2 =>
 (.row (m2) (f) [(vI (i)), (vS (s)), (vI (i1)), (vI (i2))]
 (.need true
 (.need true
 (.need true
 (.ret ⟨(.ret (.slice 1 [] .no)), .none, [[(.slice 4 (m2) .no), (vI (z2)), (vI (f)), (vI (3)), (vI (i2))]]⟩)))))))))
 (.need true
 (.need true
 (.need true
 (.ret ⟨(.ret (.slice 1 [] .no)), .none, [[(.slice 4 (m2) .no), (vI (z2)), (vI (f)), (vI (3)), (vI (z2))]]⟩)))))
 (.need true
 (.need true
 (.ret ⟨(.ret (.slice 1 [] .no)), .none, [[(.slice 4 (m2) .no), (vI (z2)), (vI (f)), (vI (e2)), (vI (c2))]]⟩))))
 (.need true
 (.ret ⟨(.ret (.slice 1 (p2) .no)), .none, [[(.slice 4 (m2) .no), (vI (z2)), (vI (a2)), (vI (e2)), (vI (c2))]]⟩))) := by kernel_rfl
theorem X_rpB1y_eq (l : List (List AV)) (z : Int) (a : Int) (e : Int) (b : Int) (lo : Bool) (p : List (List AV)) (m : List (List AV)) (f : Int) (z' : Int) (a' : Int) (e' : Int) (b' : Int) (b1 : Bool) (b2 : Bool) (p2 : List (List AV)) (m2 : List (List AV)) (z2 : Int) (a2 : Int) (e2 : Int) (c2 : Int) : Y_rpB1 l z a e b lo p m f z' a' e' b' b1 b2 { tmps := tm2 85 [(0, AV.ptr 0 0), (5, AV.slice 1 p2 Own.yes), (6, vI f)], lh := lm2 85 [], g := { H := [[AV.slice 4 m2 Own.no, vI z2, vI a2, vI e2, vI c2]], defers := [], rm := RM.none, base := 1 } } =
 (.branch (decide ((↑p2.length : Int) > 8))
 (.branch (e2 == 0)
 (.branch (decide (f < (↑m2.length : Int)))
 (.exI fun i =>
 (.exS fun s =>
 (.exI fun i1 =>
 (.exI fun i2 =>
 (.row (m2) (f) [(vI (i)), (vS (s)), (vI (i1)), (vI (i2))]
 (.need true
 (.need true
 (.need true
 (.ret ⟨(.ret (.slice 1 [] .no)), .none, [[(.slice 4 (m2) .no), (vI (z2)), (vI (f)), (vI (3)), (vI (i2))]]⟩)))))))))
 (.need true
 (.need true
 (.need true
 (.ret ⟨(.ret (.slice 1 [] .no)), .none, [[(.slice 4 (m2) .no), (vI (z2)), (vI (f)), (vI (3)), (vI (z2))]]⟩)))))
 (.need true
 (.need true
 (.ret ⟨(.ret (.slice 1 [] .no)), .none, [[(.slice 4 (m2) .no), (vI (z2)), (vI (f)), (vI (e2)), (vI (c2))]]⟩))))
 (.need true
 (.ret ⟨(.ret (.slice 1 (p2) .no)), .none, [[(.slice 4 (m2) .no), (vI (z2)), (vI (a2)), (vI (e2)), (vI (c2))]]⟩))) := by kernel_rfl
theorem X_rpB2y_eq (l : List (List AV)) (z : Int) (a : Int) (e : Int) (b : Int) (lo : Bool) (p : List (List AV)) (m : List (List AV)) (f : Int) (z' : Int) (a' : Int) (e' : Int) (b' : Int) (b1 : Bool) (p2 : List (List AV)) (m2 : List (List AV)) (z2 : Int) (a2 : Int) (e2 : Int) (c2 : Int) : Y_rpB2 l z a e b lo p m f z' a' e' b' b1 { tmps := tm2 85 [(0, AV.ptr 0 0), (5, AV.slice 1 p2 Own.yes), (6, vI f)], lh := lm2 85 [], g := { H := [[AV.slice 4 m2 Own.no, vI z2, vI a2, vI e2, vI c2]], defers := [], rm := RM.none, base := 1 } } =
 (.branch (decide ((↑p2.length : Int) > 8))
 (.branch (e2 == 0)
 (.branch (decide (f < (↑m2.length : Int)))
 (.exI fun i =>
 (.exS fun s =>
 (.exI fun i1 =>
 (.exI fun i2 =>
 (.row (m2) (f) [(vI (i)), (vS (s)), (vI (i1)), (vI (i2))]
 (.need true
 (.need true
 (.need true
 (.ret ⟨(.ret (.slice 1 [] .no)), .none, [[(.slice 4 (m2) .no), (vI (z2)), (vI (f)), (vI (3)), (vI (i2))]]⟩)))))))))
 (.need true
 (.need true
 (.need true
 (.ret ⟨(.ret (.slice 1 [] .no)), .none, [[(.slice 4 (m2) .no), (vI (z2)), (vI (f)), (vI (3)), (vI (z2))]]⟩)))))
 (.need true
 (.need true
 (.ret ⟨(.ret (.slice 1 [] .no)), .none, [[(.slice 4 (m2) .no), (vI (z2)), (vI (f)), (vI (e2)), (vI (c2))]]⟩))))
 (.need true
 (.ret ⟨(.ret (.slice 1 (p2) .no)), .none, [[(.slice 4 (m2) .no), (vI (z2)), (vI (a2)), (vI (e2)), (vI (c2))]]⟩))) := by kernel_rfl
end Go.Proofs
end

section
/- PARSE: the document's reader: path, Path -/
set_option linter.unusedVariables false
set_option linter.unusedSimpArgs false
set_option maxRecDepth 100000
open Go Go.Eng Go.Pa
open Go.Lx (T Tok)
namespace Go.Proofs
abbrev pthV (x : List T × Bool) : AV := strsV x.1
theorem wrap2 {k : Nat} (h : k < BIG) : IntKind.i64.wrap ((k : Int) + 2) = ((k + 2 : Nat) : Int) := by
  rw [IntKind.wrap_i64]; unfold BIG at h; omega
theorem wrapUD {k : Nat} (h : k < BIG) : IntKind.i64.wrap (IntKind.i64.wrap ((k : Int) + 1) - 1) = (k : Int) := by rw [wrapU h, wrapD h]
section
variable {QD : List (St → Prop)} {L : List Tok} {z k0 : Nat}
/-- The end: a path that is too great is an error at its beginning. -/
theorem rp_fin {p' : List T} {P : List (List AV)} {F : Res (List T × Bool)} {k e c : Nat} (hP : P = pRows p') (hk0 : k0 ≤ L.length)
    (h1 : p'.length ≤ 8 → e = 0 → k ≤ L.length ∧ ∃ b, F = .ok (p', b) (L.drop k)) (h2 : p'.length ≤ 8 → e ≠ 0 → F = .no e c) (h3 : 8 < p'.length → e = 0 ∧ F = .no 3 (pl z (L.drop k0))) :
    (KT.branch (decide ((P.length : Int) > 8))
      (.branch ((e : Int) == 0)
        (.branch (decide ((k0 : Int) < ((tks L).length : Int)))
          (.exI fun i => .exS fun s => .exI fun i1 => .exI fun i2 => .row (tks L) k0 [vI i, vS s, vI i1, vI i2]
            (.need true (.need true (.need true (.ret ⟨.ret (.slice 1 [] .no), .none, [hp5 (tks L) z k0 3 i2]⟩)))))
          (.need true (.need true (.need true (.ret ⟨.ret (.slice 1 [] .no), .none, [hp5 (tks L) z k0 3 z]⟩)))))
        (.need true (.need true (.ret ⟨.ret (.slice 1 [] .no), .none, [hp5 (tks L) z k0 e c]⟩))))
      (.need true (.ret ⟨.ret (.slice 1 P .no), .none, [hp5 (tks L) z k e c]⟩))).wp Pg cfg0 evp QD (Qq pthV shStrs F L z) ∨ (e = 0 ∧ c ≠ 0) := by
  by_cases hc : e = 0 ∧ c ≠ 0
  · exact .inr hc
  left
  subst hP
  refine wp_if2 (fun h => ?_) (fun h => ⟨rfl, ?_⟩)
  · have h := of_decide_eq_true h
    simp only [List.length_map] at h
    obtain ⟨he, hF⟩ := h3 (by omega)
    refine wp_if2 (fun _ => ?_) (fun h => by rw [he] at h; exact absurd h (by decide))
    cases hD : L.drop k0 with
    | nil =>
      rw [hD] at hF
      exact wp_if2 (lt_len hD) (fun _ => ⟨rfl, rfl, rfl, qq_no (k := k0) (e := 3) hF (by decide) ⟨_, rfl⟩⟩)
    | cons t r =>
      rw [hD] at hF
      exact wp_if2 (fun _ => ⟨_, _, _, _, rowk (dropc hD).2.1, rfl, rfl, rfl, qq_no (k := k0) (e := 3) hF (by decide) ⟨_, rfl⟩⟩) (not_lt hD)
  · have h := of_decide_eq_false h
    simp only [List.length_map] at h
    by_cases he : e = 0
    · have hc0 : c = 0 := Decidable.not_not.1 fun hn => hc ⟨he, hn⟩
      subst he hc0
      obtain ⟨hk, b, hF⟩ := h1 (by omega) rfl
      exact qq_ok (k := k) hF rfl hk rfl
    · exact qq_no (h2 (by omega) he) he ⟨_, rfl⟩
/-- The last name of a path. -/
theorem rp_tail {lo : Bool} {k : Nat} {ND : ByteArray → Bool} {LEN : Bool} {Sy : ByteArray → Int → St} {Sn : Int → Int → Int → St} {Q : St → Prop} (hL : L.length < BIG) (hk : k ≤ L.length)
    (h1 : ∀ t r, L.drop k = t :: r → (t.kind == 1 && lo || t.kind == 2) = true → ND ⟨t.text.toArray⟩ = true ∧ Q (Sy ⟨t.text.toArray⟩ (k + 1 : Nat)))
    (h2 : (∀ t r, L.drop k = t :: r → (t.kind == 1 && lo || t.kind == 2) = false) → LEN = true → Q (Sn k 11 (pl z (L.drop k))))
    (h3 : (∀ t r, L.drop k = t :: r → (t.kind == 1 && lo || t.kind == 2) = false) → LEN = false → Q (Sn k 0 0)) {QR : CRes → Prop} :
    (KT.branch lo
      (.exB fun b3 => .call f_waferref05_Reader_kind [.ptr 0 0, vI 1] .none (qH L z k 0 0) ⟨.ret (vB b3), .none, qH L z k 0 0⟩
        (.branch b3
          (.exI fun i => .exS fun s => .exI fun i1 => .exI fun i2 => .row (tks L) (IntKind.i64.wrap (IntKind.i64.wrap ((k : Int) + 1) - 1)) [vI i, vS s, vI i1, vI i2] (.need (ND s) (.done (Sy s (IntKind.i64.wrap ((k : Int) + 1))))))
          (.exB fun b4 => .call f_waferref05_Reader_kind [.ptr 0 0, vI 2] .none (qH L z k 0 0) ⟨.ret (vB b4), .none, qH L z k 0 0⟩
            (.branch b4
              (.exI fun i => .exS fun s => .exI fun i1 => .exI fun i2 => .row (tks L) (IntKind.i64.wrap (IntKind.i64.wrap ((k : Int) + 1) - 1)) [vI i, vS s, vI i1, vI i2] (.need (ND s) (.done (Sy s (IntKind.i64.wrap ((k : Int) + 1))))))
              (.branch LEN
                (.branch ((0 : Int) == 0)
                  (.branch (decide ((k : Int) < ((tks L).length : Int)))
                    (.exI fun i => .exS fun s => .exI fun i1 => .exI fun i2 => .row (tks L) k [vI i, vS s, vI i1, vI i2] (.need true (.need true (.done (Sn k 11 i2)))))
                    (.need true (.need true (.done (Sn k 11 z)))))
                  (.need true (.done (Sn k 0 0))))
                (.done (Sn k 0 0)))))))
      (.exB fun b4 => .call f_waferref05_Reader_kind [.ptr 0 0, vI 2] .none (qH L z k 0 0) ⟨.ret (vB b4), .none, qH L z k 0 0⟩
            (.branch b4
              (.exI fun i => .exS fun s => .exI fun i1 => .exI fun i2 => .row (tks L) (IntKind.i64.wrap (IntKind.i64.wrap ((k : Int) + 1) - 1)) [vI i, vS s, vI i1, vI i2] (.need (ND s) (.done (Sy s (IntKind.i64.wrap ((k : Int) + 1))))))
              (.branch LEN
                (.branch ((0 : Int) == 0)
                  (.branch (decide ((k : Int) < ((tks L).length : Int)))
                    (.exI fun i => .exS fun s => .exI fun i1 => .exI fun i2 => .row (tks L) k [vI i, vS s, vI i1, vI i2] (.need true (.need true (.done (Sn k 11 i2)))))
                    (.need true (.need true (.done (Sn k 11 z)))))
                  (.need true (.done (Sn k 0 0))))
                (.done (Sn k 0 0)))))).wp Pg cfg0 evp (Q :: QD) QR := by
  have hno : (∀ t r, L.drop k = t :: r → (t.kind == 1 && lo || t.kind == 2) = false) → (KT.branch LEN
                (.branch ((0 : Int) == 0)
                  (.branch (decide ((k : Int) < ((tks L).length : Int)))
                    (.exI fun i => .exS fun s => .exI fun i1 => .exI fun i2 => .row (tks L) k [vI i, vS s, vI i1, vI i2] (.need true (.need true (.done (Sn k 11 i2)))))
                    (.need true (.need true (.done (Sn k 11 z)))))
                  (.need true (.done (Sn k 0 0))))
                (.done (Sn k 0 0))).wp Pg cfg0 evp (Q :: QD) QR := by
    intro hn
    refine wp_if2 (fun hl => wp_if2 (fun _ => ?_) (fun h => absurd h (by decide))) (fun hl => h3 hn hl)
    have h2' := h2 hn hl
    cases hD : L.drop k with
    | nil =>
      rw [hD] at h2'
      exact wp_if2 (lt_len hD) (fun _ => ⟨rfl, rfl, wp_done h2'⟩)
    | cons t r =>
      rw [hD] at h2'
      exact wp_if2 (fun _ => ⟨_, _, _, _, rowk (dropc hD).2.1, rfl, rfl, wp_done h2'⟩) (not_lt hD)
  have hyes : ∀ t r, L.drop k = t :: r → (t.kind == 1 && lo || t.kind == 2) = true → (KT.exI fun i => .exS fun s => .exI fun i1 => .exI fun i2 => .row (tks L) (IntKind.i64.wrap (IntKind.i64.wrap ((k : Int) + 1) - 1)) [vI i, vS s, vI i1, vI i2] (.need (ND s) (.done (Sy s (IntKind.i64.wrap ((k : Int) + 1)))))).wp Pg cfg0 evp (Q :: QD) QR := by
    intro t r hD hc
    obtain ⟨d1, d2, d3⟩ := dropc hD
    obtain ⟨q1, q2⟩ := h1 t r hD hc
    rw [wrapUD (by omega), wrapU (by omega)]
    exact ⟨_, _, _, _, rowk d2, q1, wp_done q2⟩
  have hsec : (∀ t r, L.drop k = t :: r → (t.kind == 1 && lo) = false) → (KT.exB fun b4 => .call f_waferref05_Reader_kind [.ptr 0 0, vI 2] .none (qH L z k 0 0) ⟨.ret (vB b4), .none, qH L z k 0 0⟩
            (.branch b4
              (.exI fun i => .exS fun s => .exI fun i1 => .exI fun i2 => .row (tks L) (IntKind.i64.wrap (IntKind.i64.wrap ((k : Int) + 1) - 1)) [vI i, vS s, vI i1, vI i2] (.need (ND s) (.done (Sy s (IntKind.i64.wrap ((k : Int) + 1))))))
              (.branch LEN
                (.branch ((0 : Int) == 0)
                  (.branch (decide ((k : Int) < ((tks L).length : Int)))
                    (.exI fun i => .exS fun s => .exI fun i1 => .exI fun i2 => .row (tks L) k [vI i, vS s, vI i1, vI i2] (.need true (.need true (.done (Sn k 11 i2)))))
                    (.need true (.need true (.done (Sn k 11 z)))))
                  (.need true (.done (Sn k 0 0))))
                (.done (Sn k 0 0))))).wp Pg cfg0 evp (Q :: QD) QR := by
    intro hn
    refine ⟨_, c_rkind L z k 2, wp_if2 (fun h => ?_) (fun h => hno fun t r hD => ?_)⟩
    · cases hD : L.drop k with
      | nil => rw [hD] at h; cases h
      | cons t r =>
        rw [hD] at h
        have h : (t.kind == 2) = true := h
        exact hyes t r hD (by rw [h]; simp)
    · rw [hD] at h
      have h : (t.kind == 2) = false := h
      rw [hn t r hD, h]; rfl
  refine wp_if2 (fun hlo => ⟨_, c_rkind L z k 1, wp_if2 (fun h => ?_) (fun h => hsec fun t r hD => ?_)⟩) (fun hlo => hsec fun t r hD => by rw [hlo]; simp)
  · cases hD : L.drop k with
    | nil => rw [hD] at h; cases h
    | cons t r =>
      rw [hD] at h
      have h : (t.kind == 1) = true := h
      exact hyes t r hD (by rw [h, hlo]; rfl)
  · rw [hD] at h
    have h : (t.kind == 1) = false := h
    rw [h]; rfl
end
theorem dot_w {u : Tok} (h : gtok u) : isW wDot [u] = (u.kind == 6 && decide (u.text = wDot)) := by
  by_cases h3 : u.kind = 3
  · obtain ⟨c, r, e, hc⟩ := h.2.2.2 h3
    have : ¬ u.text = wDot := by
      rw [e]
      intro h'
      injection h' with h1 h2
      subst h1; exact absurd hc (by decide)
    simp [isW, this]
  · have : (u.kind == 3) = false := by simpa using h3
    simp [isW, this]
theorem c_rpath {L : List Tok} {z k0 : Nat} {lo : Bool} (hg : Gd L) (hL : L.length ≤ 100000) (hk0 : k0 ≤ L.length) :
    QC pthV shStrs (path z lo true (pl z (L.drop k0)) [] (L.drop k0)) L z f_waferref05_Reader_path [.ptr 0 0, vB lo] (qH L z k0 0 0) := by
  have hLB : L.length < BIG := by unfold BIG; omega
  refine qc_of (wp_eq2 (X_rpath_eq ..) ?_)
  have hY : X_rpath (tks L) z k0 (0 : Nat) (0 : Nat) lo = Y_rpath (tks L) z k0 0 0 lo := by delta X_rpath Y_rpath; rfl
  generalize hFF : path z lo true (pl z (L.drop k0)) [] (L.drop k0) = F
  refine wp_eq2 hY (loop5 (fun x : List T × Nat => ⟨tm2 85 [(0, (.ptr 0 0)), (1, (vB (lo))), (5, pY x.1), (6, (vI (k0)))], lm2 85 [], ⟨[hp5 (tks L) z x.2 0 0], [], .none, 1⟩⟩)
    (fun x => x.2 ≤ L.length ∧ x.1.length ≤ x.2 ∧ (x.1.length ≤ 8 → F = path z lo true (pl z (L.drop k0)) x.1 (L.drop x.2)) ∧ (8 < x.1.length → F = .no 3 (pl z (L.drop k0)))) (fun x => L.length - x.2) ([], k0) (by kernel_rfl) ⟨hk0, Nat.zero_le _, fun _ => hFF.symm, fun h => by simp at h⟩ ?_)
  rintro ⟨p, k⟩ ⟨hk, hpk, hF, hF3⟩
  simp only at hk hpk hF hF3
  -- the last name
  have fin1 : ∀ t r, L.drop k = t :: r → (t.kind == 1 && lo || t.kind == 2) = true → (t.kind == 2 → dotB (L.drop k) = false) →
      ((p ++ [t.text]).length ≤ 8 → ∃ b, F = .ok (p ++ [t.text], b) (L.drop (k + 1))) ∧ (8 < (p ++ [t.text]).length → F = .no 3 (pl z (L.drop k0))) := by
    intro t r hD hc hd
    obtain ⟨d1, d2, d3⟩ := dropc hD
    have hc2 : (t.kind == 2 || (t.kind == 1 && lo)) = true := by rw [Bool.or_comm]; exact hc
    refine ⟨fun h8 => ?_, fun h8 => ?_⟩
    · simp at h8
      have hF := hF (by omega)
      rw [hD, path_cons, if_pos hc2, if_neg (by omega)] at hF
      by_cases h1 : (t.kind == 1) = true
      · rw [if_pos h1] at hF
        exact ⟨true, by rw [hF, d3]⟩
      · rw [if_neg h1] at hF
        have h2 : (t.kind == 2) = true := by
          have : (t.kind == 1) = false := by simpa using h1
          rw [this] at hc; simpa using hc
        have hd := hd h2
        rw [hD] at hd
        refine ⟨false, ?_⟩
        rw [hF, d3]
        cases r with
        | nil => rfl
        | cons u r' =>
          have hgu : gtok u := hg u (by
            have : u ∈ L.drop (k + 1) := by rw [d3]; simp
            exact List.mem_of_mem_drop this)
          have hw : isW wDot [u] = false := by rw [dot_w hgu]; exact hd
          simp only [hw, Bool.false_eq_true, if_false, if_true]
    · simp at h8
      by_cases h9 : p.length ≤ 8
      · have hF := hF h9
        rw [hD, path_cons, if_pos hc2, if_pos (by omega)] at hF
        exact hF
      · exact hF3 (by omega)
  have fin2 : (∀ t r, L.drop k = t :: r → (t.kind == 1 && lo || t.kind == 2) = false) → p.length ≤ 8 → F = .no 11 (pl z (L.drop k)) := by
    intro hn h8
    rw [hF h8]
    cases hD : L.drop k with
    | nil => rw [path_nil]; rfl
    | cons t r =>
      rw [path_cons, if_neg (by rw [Bool.or_comm, hn t r hD]; decide)]; rfl
  -- one name more
  have go2 : ∀ t r, L.drop k = t :: r → (t.kind == 2) = true → dotB (L.drop k) = true → k + 2 ≤ L.length ∧ (p ++ [t.text]).length ≤ k + 2 ∧ ((p ++ [t.text]).length ≤ 8 → F = path z lo true (pl z (L.drop k0)) (p ++ [t.text]) (L.drop (k + 2))) ∧ (8 < (p ++ [t.text]).length → F = .no 3 (pl z (L.drop k0))) := by
    intro t r hD h2 hd
    obtain ⟨d1, d2, d3⟩ := dropc hD
    cases r with
    | nil => rw [hD] at hd; cases hd
    | cons u r' =>
      obtain ⟨e1, e2, e3⟩ := dropc d3
      have hgu : gtok u := hg u (by
        have : u ∈ L.drop (k + 1) := by rw [d3]; simp
        exact List.mem_of_mem_drop this)
      have hw : isW wDot [u] = true := by rw [dot_w hgu]; rw [hD] at hd; exact hd
      have h1 : (t.kind == 1) = false := by
        have : t.kind = 2 := by simpa using h2
        simp [this]
      refine ⟨e1, by simp; omega, fun h8 => ?_, fun h8 => ?_⟩
      · simp at h8
        have hF := hF (by omega)
        rw [hD, path_cons, if_pos (by rw [h2]; rfl), if_neg (by omega), if_neg (by rw [h1]; decide)] at hF
        simp only [hw, if_true] at hF
        rw [hF, e3]
      · simp at h8
        by_cases h9 : p.length ≤ 8
        · have hF := hF h9
          rw [hD, path_cons, if_pos (by rw [h2]; rfl), if_pos (by omega)] at hF
          exact hF
        · exact hF3 (by omega)
  have dotno : ∀ b, ofK 2 (L.drop k) = b → b = false → ∀ t r, L.drop k = t :: r → (t.kind == 2 → dotB (L.drop k) = false) := by
    intro b hb hb2 t r hD h2
    rw [hb2, hD] at hb
    have hb : (t.kind == 2) = false := hb
    rw [hb] at h2; cases h2
  cases p with
  | nil =>
    -- nothing is there yet
    have tailA : ∀ {K : St → KT} {QD : List (St → Prop)}, (∀ t r, L.drop k = t :: r → (t.kind == 2 → dotB (L.drop k) = false)) →
        (∀ (p2 : List (List AV)) (a2 e2 c2 : Int), (KT.branch (decide ((p2.length : Int) > 8)) (.branch (e2 == 0)
            (.branch (decide ((k0 : Int) < ((tks L).length : Int)))
              (.exI fun i => .exS fun s => .exI fun i1 => .exI fun i2 => .row (tks L) k0 [vI i, vS s, vI i1, vI i2] (.need true (.need true (.need true (.ret ⟨.ret (.slice 1 [] .no), .none, [hp5 (tks L) z k0 3 i2]⟩)))))
              (.need true (.need true (.need true (.ret ⟨.ret (.slice 1 [] .no), .none, [hp5 (tks L) z k0 3 z]⟩)))))
            (.need true (.need true (.ret ⟨.ret (.slice 1 [] .no), .none, [hp5 (tks L) z k0 e2 c2]⟩))))
          (.need true (.ret ⟨.ret (.slice 1 p2 .no), .none, [hp5 (tks L) z a2 e2 c2]⟩))).wp Pg cfg0 evp QD (Qq pthV shStrs F L z) → (p2 ≠ [] → (K ⟨tm2 85 [(0, (.ptr 0 0)), (5, (.slice 1 p2 .yes)), (6, (vI (k0)))], lm2 85 [], ⟨[hp5 (tks L) z a2 e2 c2], [], .none, 1⟩⟩).wp Pg cfg0 evp QD (Qq pthV shStrs F L z)) ∧ (p2 = [] → (K ⟨tm2 85 [(0, (.ptr 0 0)), (5, (.slice 0 [] .full)), (6, (vI (k0)))], lm2 85 [], ⟨[hp5 (tks L) z a2 e2 c2], [], .none, 1⟩⟩).wp Pg cfg0 evp QD (Qq pthV shStrs F L z))) →
        (∀ t r, L.drop k = t :: r → (t.kind == 1 && lo || t.kind == 2) = true → true = true ∧ (fun s => (K s).wp Pg cfg0 evp QD (Qq pthV shStrs F L z)) ⟨tm2 85 [(0, (.ptr 0 0)), (5, (.slice 1 [[vS ⟨t.text.toArray⟩]] .yes)), (6, (vI (k0)))], lm2 85 [], ⟨[hp5 (tks L) z (k + 1 : Nat) 0 0], [], .none, 1⟩⟩) ∧
        ((∀ t r, L.drop k = t :: r → (t.kind == 1 && lo || t.kind == 2) = false) → (K ⟨tm2 85 [(0, (.ptr 0 0)), (5, (.slice 0 [] .full)), (6, (vI (k0)))], lm2 85 [], ⟨[hp5 (tks L) z k 11 (pl z (L.drop k))], [], .none, 1⟩⟩).wp Pg cfg0 evp QD (Qq pthV shStrs F L z)) := by
      intro K QD hd hK
      refine ⟨fun t r hD hc => ⟨rfl, ?_⟩, fun hn => ?_⟩
      · obtain ⟨f1, f2⟩ := fin1 t r hD hc (hd t r hD)
        obtain ⟨d1, d2, d3⟩ := dropc hD
        refine (hK [[vS ⟨t.text.toArray⟩]] (k + 1 : Nat) 0 0 ?_).1 (by simp)
        exact (rp_fin (p' := [t.text]) (e := 0) (c := 0) rfl hk0 (fun h _ => ⟨d1, f1 h⟩) (fun _ h => absurd rfl h) (fun h => ⟨rfl, f2 h⟩)).resolve_right (fun h => h.2 rfl)
      · have f := fin2 hn (Nat.zero_le _)
        refine (hK [] k 11 (pl z (L.drop k)) ?_).2 rfl
        exact (rp_fin (p' := []) (e := 11) (c := pl z (L.drop k)) rfl hk0 (fun _ h => by omega) (fun _ _ => f) (fun h => by simp at h)).resolve_right (fun h => by omega)
    refine wp_eq2 (X_rpathA_eq ..) ⟨_, c_rkind L z k 2, wp_if2 (fun h2 => ?_) (fun h2 => wp_out (wp_stage ?_))⟩
    · have hk1 : k < L.length := by
        cases hD : L.drop k with
        | nil => rw [hD] at h2; cases h2
        | cons t r => exact (dropc hD).1
      refine ⟨_, c_rdotted 0 0 hLB hk1, wp_if2 (fun hd => ?_) (fun hd => wp_out (wp_stage ?_))⟩
      · cases hD : L.drop k with
        | nil => rw [hD] at h2; cases h2
        | cons t r =>
          obtain ⟨d1, d2, d3⟩ := dropc hD
          rw [hD] at h2
          obtain ⟨g1, g2, g3, g4⟩ := go2 t r hD h2 hd
          refine ⟨_, _, _, _, rowk d2, rfl, wp_done ⟨([t.text], k + 2), ⟨⟨g1, g2, g3, g4⟩, by simp only; omega⟩, ?_⟩⟩
          rw [wrap2 (by omega)]; rfl
      · have hY1 : ∀ s, ((((X_rpathA (tks L) z k0 0 0 lo (tks L) k0 z k 0 0).B true).T.T.B false).T.F.T.K s) = Y_rpA1 (tks L) z k0 0 0 lo (tks L) k0 z k 0 0 true false s := by delta Y_rpA1 X_rpathA; intro s; rfl
        have hnd : ∀ t r, L.drop k = t :: r → (t.kind == 2 → dotB (L.drop k) = false) := fun _ _ _ _ => hd
        rw [h2, hd]
        obtain ⟨t1, t2⟩ := tailA (QD := []) (K := fun s => (((X_rpathA (tks L) z k0 0 0 lo (tks L) k0 z k 0 0).B true).T.T.B false).T.F.T.K s) hnd (fun p2 a2 e2 c2 hw => ⟨fun _ => wp_eq2 (hY1 _) (wp_eq2 (X_rpA1y_eq ..) hw), fun e => by subst e; exact wp_eq2 (hY1 _) (wp_eq2 (X_rpA1n_eq ..) hw)⟩)
        refine rp_tail (ND := fun _ => true) (LEN := decide (((([] : List (List AV)).length : Nat) : Int) ≤ 8)) (Sy := fun s a => ⟨tm2 85 [(0, (.ptr 0 0)), (5, (.slice 1 [[vS s]] .yes)), (6, (vI (k0)))], lm2 85 [], ⟨[hp5 (tks L) z a 0 0], [], .none, 1⟩⟩) (Sn := fun a e c => ⟨tm2 85 [(0, (.ptr 0 0)), (5, (.slice 0 [] .full)), (6, (vI (k0)))], lm2 85 [], ⟨[hp5 (tks L) z a e c], [], .none, 1⟩⟩) hLB hk ?_ ?_ ?_
        · exact t1
        · exact fun hn _ => t2 hn
        · exact fun _ h => absurd h (by decide)
    · have hY1 : ∀ s, ((((X_rpathA (tks L) z k0 0 0 lo (tks L) k0 z k 0 0).B false).T.F.T.K s)) = Y_rpA2 (tks L) z k0 0 0 lo (tks L) k0 z k 0 0 false s := by delta Y_rpA2 X_rpathA; intro s; rfl
      have hnd := dotno _ rfl h2
      rw [h2]
      obtain ⟨t1, t2⟩ := tailA (QD := []) (K := fun s => ((X_rpathA (tks L) z k0 0 0 lo (tks L) k0 z k 0 0).B false).T.F.T.K s) hnd (fun p2 a2 e2 c2 hw => ⟨fun _ => wp_eq2 (hY1 _) (wp_eq2 (X_rpA2y_eq ..) hw), fun e => by subst e; exact wp_eq2 (hY1 _) (wp_eq2 (X_rpA2n_eq ..) hw)⟩)
      refine rp_tail (ND := fun _ => true) (LEN := decide (((([] : List (List AV)).length : Nat) : Int) ≤ 8)) (Sy := fun s a => ⟨tm2 85 [(0, (.ptr 0 0)), (5, (.slice 1 [[vS s]] .yes)), (6, (vI (k0)))], lm2 85 [], ⟨[hp5 (tks L) z a 0 0], [], .none, 1⟩⟩) (Sn := fun a e c => ⟨tm2 85 [(0, (.ptr 0 0)), (5, (.slice 0 [] .full)), (6, (vI (k0)))], lm2 85 [], ⟨[hp5 (tks L) z a e c], [], .none, 1⟩⟩) hLB hk ?_ ?_ ?_
      · exact t1
      · exact fun hn _ => t2 hn
      · exact fun _ h => absurd h (by decide)
  | cons p0 p =>
    have tailB : ∀ {K : St → KT} {QD : List (St → Prop)}, (∀ t r, L.drop k = t :: r → (t.kind == 2 → dotB (L.drop k) = false)) →
        (∀ (p2 : List (List AV)) (a2 e2 c2 : Int), (KT.branch (decide ((p2.length : Int) > 8)) (.branch (e2 == 0)
            (.branch (decide ((k0 : Int) < ((tks L).length : Int)))
              (.exI fun i => .exS fun s => .exI fun i1 => .exI fun i2 => .row (tks L) k0 [vI i, vS s, vI i1, vI i2] (.need true (.need true (.need true (.ret ⟨.ret (.slice 1 [] .no), .none, [hp5 (tks L) z k0 3 i2]⟩)))))
              (.need true (.need true (.need true (.ret ⟨.ret (.slice 1 [] .no), .none, [hp5 (tks L) z k0 3 z]⟩)))))
            (.need true (.need true (.ret ⟨.ret (.slice 1 [] .no), .none, [hp5 (tks L) z k0 e2 c2]⟩))))
          (.need true (.ret ⟨.ret (.slice 1 p2 .no), .none, [hp5 (tks L) z a2 e2 c2]⟩))).wp Pg cfg0 evp QD (Qq pthV shStrs F L z) → (K ⟨tm2 85 [(0, (.ptr 0 0)), (5, (.slice 1 p2 .yes)), (6, (vI (k0)))], lm2 85 [], ⟨[hp5 (tks L) z a2 e2 c2], [], .none, 1⟩⟩).wp Pg cfg0 evp QD (Qq pthV shStrs F L z)) →
        (∀ t r, L.drop k = t :: r → (t.kind == 1 && lo || t.kind == 2) = true → Nat.ble ((pRows (p0 :: p)).length + 1) 2147483648 = true ∧ (K ⟨tm2 85 [(0, (.ptr 0 0)), (5, (.slice 1 (pRows (p0 :: p) ++ [[vS ⟨t.text.toArray⟩]]) .yes)), (6, (vI (k0)))], lm2 85 [], ⟨[hp5 (tks L) z (k + 1 : Nat) 0 0], [], .none, 1⟩⟩).wp Pg cfg0 evp QD (Qq pthV shStrs F L z)) ∧
        ((∀ t r, L.drop k = t :: r → (t.kind == 1 && lo || t.kind == 2) = false) → decide (((pRows (p0 :: p)).length : Int) ≤ 8) = true → (K ⟨tm2 85 [(0, (.ptr 0 0)), (5, (.slice 1 (pRows (p0 :: p)) .yes)), (6, (vI (k0)))], lm2 85 [], ⟨[hp5 (tks L) z k 11 (pl z (L.drop k))], [], .none, 1⟩⟩).wp Pg cfg0 evp QD (Qq pthV shStrs F L z)) ∧
        ((∀ t r, L.drop k = t :: r → (t.kind == 1 && lo || t.kind == 2) = false) → decide (((pRows (p0 :: p)).length : Int) ≤ 8) = false → (K ⟨tm2 85 [(0, (.ptr 0 0)), (5, (.slice 1 (pRows (p0 :: p)) .yes)), (6, (vI (k0)))], lm2 85 [], ⟨[hp5 (tks L) z k 0 0], [], .none, 1⟩⟩).wp Pg cfg0 evp QD (Qq pthV shStrs F L z)) := by
      intro K QD hd hK
      refine ⟨fun t r hD hc => ⟨by rw [Nat.ble_eq]; simp at hpk ⊢; omega, ?_⟩, fun hn h8 => ?_, fun hn h8 => ?_⟩
      · obtain ⟨f1, f2⟩ := fin1 t r hD hc (hd t r hD)
        obtain ⟨d1, d2, d3⟩ := dropc hD
        refine hK _ (k + 1 : Nat) 0 0 ?_
        exact (rp_fin (p' := (p0 :: p) ++ [t.text]) (e := 0) (c := 0) (by simp only [pRows, List.map_append]; rfl) hk0 (fun h _ => ⟨d1, f1 h⟩) (fun _ h => absurd rfl h) (fun h => ⟨rfl, f2 h⟩)).resolve_right (fun h => h.2 rfl)
      · have h8 := of_decide_eq_true h8
        simp only [List.length_map] at h8
        have f := fin2 hn (by omega)
        refine hK _ k 11 (pl z (L.drop k)) ?_
        exact (rp_fin (p' := p0 :: p) (e := 11) (c := pl z (L.drop k)) rfl hk0 (fun _ h => by omega) (fun _ _ => f) (fun h => by omega)).resolve_right (fun h => by omega)
      · have h8 := of_decide_eq_false h8
        simp only [List.length_map] at h8
        refine hK _ k 0 0 ?_
        exact (rp_fin (p' := p0 :: p) (e := 0) (c := 0) rfl hk0 (fun h _ => by omega) (fun _ h => absurd rfl h) (fun h => ⟨rfl, hF3 h⟩)).resolve_right (fun h => h.2 rfl)
    refine wp_eq2 (X_rpathB_eq (p := pRows (p0 :: p)) ..) ⟨_, c_rkind L z k 2, wp_if2 (fun h2 => ?_) (fun h2 => wp_out (wp_stage ?_))⟩
    · have hk1 : k < L.length := by
        cases hD : L.drop k with
        | nil => rw [hD] at h2; cases h2
        | cons t r => exact (dropc hD).1
      refine ⟨_, c_rdotted 0 0 hLB hk1, wp_if2 (fun hd => ?_) (fun hd => wp_out (wp_stage ?_))⟩
      · cases hD : L.drop k with
        | nil => rw [hD] at h2; cases h2
        | cons t r =>
          obtain ⟨d1, d2, d3⟩ := dropc hD
          rw [hD] at h2
          obtain ⟨g1, g2, g3, g4⟩ := go2 t r hD h2 hd
          refine ⟨_, _, _, _, rowk d2, by rw [Nat.ble_eq]; simp at hpk ⊢; omega, wp_done ⟨((p0 :: p) ++ [t.text], k + 2), ⟨⟨g1, g2, g3, g4⟩, by simp only; omega⟩, ?_⟩⟩
          rw [wrap2 (by omega)]
          simp only [pY, List.cons_append, pRows, List.map_cons, List.map_append]; rfl
      · have hY1 : ∀ s, ((((X_rpathB (tks L) z k0 0 0 lo (pRows (p0 :: p)) (tks L) k0 z k 0 0).B true).T.T.B false).T.F.T.K s) = Y_rpB1 (tks L) z k0 0 0 lo (pRows (p0 :: p)) (tks L) k0 z k 0 0 true false s := by delta Y_rpB1 X_rpathB; intro s; rfl
        have hnd : ∀ t r, L.drop k = t :: r → (t.kind == 2 → dotB (L.drop k) = false) := fun _ _ _ _ => hd
        rw [h2, hd]
        obtain ⟨t1, t2, t3⟩ := tailB (QD := []) (K := fun s => (((X_rpathB (tks L) z k0 0 0 lo (pRows (p0 :: p)) (tks L) k0 z k 0 0).B true).T.T.B false).T.F.T.K s) hnd (fun p2 a2 e2 c2 hw => wp_eq2 (hY1 _) (wp_eq2 (X_rpB1y_eq ..) hw))
        refine rp_tail (ND := fun _ => Nat.ble ((pRows (p0 :: p)).length + 1) 2147483648) (LEN := decide (((pRows (p0 :: p)).length : Int) ≤ 8)) (Sy := fun s a => ⟨tm2 85 [(0, (.ptr 0 0)), (5, (.slice 1 (pRows (p0 :: p) ++ [[vS s]]) .yes)), (6, (vI (k0)))], lm2 85 [], ⟨[hp5 (tks L) z a 0 0], [], .none, 1⟩⟩) (Sn := fun a e c => ⟨tm2 85 [(0, (.ptr 0 0)), (5, (.slice 1 (pRows (p0 :: p)) .yes)), (6, (vI (k0)))], lm2 85 [], ⟨[hp5 (tks L) z a e c], [], .none, 1⟩⟩) hLB hk ?_ ?_ ?_
        · exact t1
        · exact t2
        · exact t3
    · have hY1 : ∀ s, ((((X_rpathB (tks L) z k0 0 0 lo (pRows (p0 :: p)) (tks L) k0 z k 0 0).B false).T.F.T.K s)) = Y_rpB2 (tks L) z k0 0 0 lo (pRows (p0 :: p)) (tks L) k0 z k 0 0 false s := by delta Y_rpB2 X_rpathB; intro s; rfl
      have hnd := dotno _ rfl h2
      rw [h2]
      obtain ⟨t1, t2, t3⟩ := tailB (QD := []) (K := fun s => ((X_rpathB (tks L) z k0 0 0 lo (pRows (p0 :: p)) (tks L) k0 z k 0 0).B false).T.F.T.K s) hnd (fun p2 a2 e2 c2 hw => wp_eq2 (hY1 _) (wp_eq2 (X_rpB2y_eq ..) hw))
      refine rp_tail (ND := fun _ => Nat.ble ((pRows (p0 :: p)).length + 1) 2147483648) (LEN := decide (((pRows (p0 :: p)).length : Int) ≤ 8)) (Sy := fun s a => ⟨tm2 85 [(0, (.ptr 0 0)), (5, (.slice 1 (pRows (p0 :: p) ++ [[vS s]]) .yes)), (6, (vI (k0)))], lm2 85 [], ⟨[hp5 (tks L) z a 0 0], [], .none, 1⟩⟩) (Sn := fun a e c => ⟨tm2 85 [(0, (.ptr 0 0)), (5, (.slice 1 (pRows (p0 :: p)) .yes)), (6, (vI (k0)))], lm2 85 [], ⟨[hp5 (tks L) z a e c], [], .none, 1⟩⟩) hLB hk ?_ ?_ ?_
      · exact t1
      · exact t2
      · exact t3
end Go.Proofs
end

section
/- PARSE: the document's reader: Path; types -/
set_option linter.unusedVariables false
set_option linter.unusedSimpArgs false
set_option maxRecDepth 100000
open Go Go.Eng Go.Pa
open Go.Lx (T Tok)
namespace Go.Proofs
/-! ### plain facts of paths -/
theorem path_low {z s : Nat} : ∀ (k : Nat) {p : List T} {l : List Tok}, l.length ≤ k → path z true false s p l = (path z true true s p l).bind fun x r => if x.2 then .ok x r else .no 11 (pl z r) := by
  intro k
  induction k with
  | zero => intro p l hk; cases l with
    | nil => rw [path_nil, path_nil]; rfl
    | cons t l => simp at hk
  | succ k ih =>
    intro p l hk
    cases l with
    | nil => rw [path_nil, path_nil]; rfl
    | cons t l =>
      rw [path_cons, path_cons]
      split
      · split
        · rfl
        · split
          · rfl
          · cases l with
            | nil => rfl
            | cons d l' =>
              simp only
              split
              · exact ih (by simp at hk; omega)
              · rfl
      · rfl
theorem path_last {z s : Nat} {lo up : Bool} : ∀ (k : Nat) {p : List T} {l r : List Tok} {x : List T × Bool}, l.length ≤ k → path z lo up s p l = .ok x r → ∃ q t, x.1 = q ++ [t.text] ∧ t ∈ l ∧ t.kind = (if x.2 then 1 else 2) ∧ (x.2 = true → lo = true) := by
  intro k
  induction k with
  | zero => intro p l r x hk h; cases l with
    | nil => rw [path_nil] at h; cases h
    | cons t l => simp at hk
  | succ k ih =>
    intro p l r x hk h
    cases l with
    | nil => rw [path_nil] at h; cases h
    | cons t l =>
      rw [path_cons] at h
      split at h
      · rename_i hc
        split at h
        · cases h
        · split at h
          · rename_i h1
            injection h with e1 e2
            subst e1
            have hk1 : t.kind = 1 := by simpa using h1
            exact ⟨p, t, rfl, by simp, by simpa using hk1, fun _ => by simpa [hk1] using hc⟩
          · rename_i h1
            have hk2 : t.kind = 2 := by
              have : ¬ t.kind = 1 := by simpa using h1
              simp [this] at hc; exact hc
            cases l with
            | nil =>
              simp only at h
              split at h
              · injection h with e1 e2
                subst e1
                exact ⟨p, t, rfl, by simp, by simpa using hk2, fun h => by cases h⟩
              · cases h
            | cons d l' =>
              simp only at h
              split at h
              · obtain ⟨q, u, h2, h3, h4⟩ := ih (by simp at hk; omega) h
                exact ⟨q, u, h2, by simp [h3], h4⟩
              · split at h
                · injection h with e1 e2
                  subst e1
                  exact ⟨p, t, rfl, by simp, by simpa using hk2, fun h => by cases h⟩
                · cases h
      · cases h
theorem path_8 {z s : Nat} {lo up : Bool} {l r : List Tok} {x : List T × Bool} (h : path z lo up s [] l = .ok x r) : x.1.length ≤ 8 := by
  have key : ∀ (k : Nat) {p : List T} {l r : List Tok} {x : List T × Bool}, l.length ≤ k → path z lo up s p l = .ok x r → x.1.length ≤ 8 := by
    intro k
    induction k with
    | zero => intro p l r x hk h; cases l with
      | nil => rw [path_nil] at h; cases h
      | cons t l => simp at hk
    | succ k ih =>
      intro p l r x hk h
      cases l with
      | nil => rw [path_nil] at h; cases h
      | cons t l =>
        rw [path_cons] at h
        split at h
        · split at h
          · cases h
          · rename_i h8
            split at h
            · injection h with e1 e2
              subst e1; simp; omega
            · cases l with
              | nil =>
                simp only at h
                split at h
                · injection h with e1 e2
                  subst e1; simp; omega
                · cases h
              | cons d l' =>
                simp only at h
                split at h
                · exact ih (by simp at hk; omega) h
                · split at h
                  · injection h with e1 e2
                    subst e1; simp; omega
                  · cases h
        · cases h
  exact key _ (Nat.le_refl _) h
section
variable {QD : List (St → Prop)} {QR : CRes → Prop} {L : List Tok} {z : Nat} {g : FuncId} {args : List AV} {H : Heap}
theorem wq_ty {F : Res Ty} {k1 : Int → ByteArray → List (List AV) → List (List AV) → List (List AV) → Int → Int → Int → Int → KT} (c : QC tyV shTy F L z g args H)
    (hok : ∀ t k, F = .ok t (L.drop k) → k ≤ L.length → (k1 (tyK t) (tyN t) (tyP t) (tyQ t) (tks L) z k (0 : Nat) (0 : Nat)).wp Pg cfg0 evp QD QR)
    (hno : ∀ (e p k : Nat) i n a b, F = .no e p → e ≠ 0 → (k1 i n a b (tks L) z k e p).wp Pg cfg0 evp QD QR) :
    (KT.exI fun i => .exS fun s => .exR fun l1 => .exR fun l2 => .exR fun m => .exI fun a => .exI fun e => .exI fun p => .exI fun d' => .call g args .none H ⟨.ret (.agg [vI i, vS s, .slice 1 l1 .no, .slice 4 l2 .no]), .none, [hp5 m a e p d']⟩ (k1 i s l1 l2 m a e p d')).wp Pg cfg0 evp QD QR := by
  obtain ⟨r, h1, h2⟩ := c
  cases hF : F with
  | ok t l =>
    rw [hF] at h2
    obtain ⟨k, rfl, hk, rfl⟩ := h2
    simp only [tyV, ty_row] at h1
    exact ⟨_, _, _, _, _, _, _, _, _, h1, hok t k hF hk⟩
  | no e p =>
    rw [hF] at h2
    obtain ⟨he, k, x, ⟨i, n, a, b, rfl⟩, rfl⟩ := h2
    exact ⟨_, _, _, _, _, _, _, _, _, h1, hno e p k i n a b hF he⟩
theorem wq_unit {F : Res Unit} {k1 : List (List AV) → Int → Int → Int → Int → KT} (c : QC unitV shUnit F L z g args H)
    (hok : ∀ t k, F = .ok t (L.drop k) → k ≤ L.length → (k1 (tks L) z k (0 : Nat) (0 : Nat)).wp Pg cfg0 evp QD QR)
    (hno : ∀ (e p k : Nat), F = .no e p → e ≠ 0 → (k1 (tks L) z k e p).wp Pg cfg0 evp QD QR) :
    (KT.exR fun m => .exI fun a => .exI fun e => .exI fun p => .exI fun d' => .call g args .none H ⟨.ret (.tuple []), .none, [hp5 m a e p d']⟩ (k1 m a e p d')).wp Pg cfg0 evp QD QR := by
  obtain ⟨r, h1, h2⟩ := c
  cases hF : F with
  | ok t l =>
    rw [hF] at h2
    obtain ⟨k, rfl, hk, rfl⟩ := h2
    exact ⟨_, _, _, _, _, h1, hok t k hF hk⟩
  | no e p =>
    rw [hF] at h2
    obtain ⟨he, k, x, rfl, rfl⟩ := h2
    exact ⟨_, _, _, _, _, h1, hno e p k hF he⟩
theorem wb_unit {k1 : List (List AV) → Int → Int → Int → Int → KT} {k e p : Nat} (c : QB shUnit g args L z) (he : e ≠ 0) (h : (k1 (tks L) z k e p).wp Pg cfg0 evp QD QR) :
    (KT.exR fun m => .exI fun a => .exI fun e' => .exI fun p' => .exI fun d' => .call g args .none (qH L z k e p) ⟨.ret (.tuple []), .none, [hp5 m a e' p' d']⟩ (k1 m a e' p' d')).wp Pg cfg0 evp QD QR := by
  obtain ⟨x, rfl, h1⟩ := c k e p he
  exact ⟨_, _, _, _, _, h1, h⟩
theorem wq_strs {α : Type} {v : α → List T} {F : Res α} {k1 : List (List AV) → List (List AV) → Int → Int → Int → Int → KT} (c : QC (fun x => strsV (v x)) shStrs F L z g args H)
    (hok : ∀ t k, F = .ok t (L.drop k) → k ≤ L.length → (k1 (pRows (v t)) (tks L) z k (0 : Nat) (0 : Nat)).wp Pg cfg0 evp QD QR)
    (hno : ∀ (e p k : Nat) l, F = .no e p → e ≠ 0 → (k1 l (tks L) z k e p).wp Pg cfg0 evp QD QR) :
    (KT.exR fun s => .exR fun m => .exI fun a => .exI fun e => .exI fun p => .exI fun d' => .call g args .none H ⟨.ret (.slice 1 s .no), .none, [hp5 m a e p d']⟩ (k1 s m a e p d')).wp Pg cfg0 evp QD QR := by
  obtain ⟨r, h1, h2⟩ := c
  cases hF : F with
  | ok t l =>
    rw [hF] at h2
    obtain ⟨k, rfl, hk, rfl⟩ := h2
    exact ⟨_, _, _, _, _, _, h1, hok t k hF hk⟩
  | no e p =>
    rw [hF] at h2
    obtain ⟨he, k, x, ⟨l, rfl⟩, rfl⟩ := h2
    exact ⟨_, _, _, _, _, _, h1, hno e p k l hF he⟩
end
theorem bmem {L : List Tok} {k : Nat} {t : Tok} (h : t ∈ L.drop k) : t ∈ L := List.mem_of_mem_drop h
theorem c_rPath {L : List Tok} {z k0 : Nat} {lo : Bool} (hg : Gd L) (hL : L.length ≤ 100000) (hk0 : k0 ≤ L.length) :
    QC strsV shStrs ((path z lo (!lo) (pl z (L.drop k0)) [] (L.drop k0)).bind fun x r => .ok x.1 r) L z f_waferref05_Reader_Path [.ptr 0 0, vB lo] (qH L z k0 0 0) := by
  refine qc_of (wp_eq2 (X_rPath_eq ..) (wq_strs (v := fun x : List T × Bool => x.1) (c_rpath (lo := lo) hg hL hk0) (fun x k hF hk => ?_) (fun e p k l hF he => wp_if2 (fun _ => ⟨rfl, ?_⟩) (fun h => by rw [ne0i he] at h; cases h))))
  · obtain ⟨q, t, h1, h2, h3, h4⟩ := path_last _ (Nat.le_refl _) hF
    have hgt := hg t (bmem h2)
    refine wp_if2 (fun h => absurd h (by decide)) (fun _ => ?_)
    have hlen : (pRows x.1).length = q.length + 1 := by rw [h1]; simp
    have hidx : IntKind.i64.wrap (((pRows x.1).length : Int) - 1) = (q.length : Int) := by
      rw [hlen]
      have hq : q.length < BIG := by
        have := path_len _ (Nat.le_refl _) hF
        have hp8 : x.1.length ≤ 8 := by
          -- a path has at most eight names
          exact path_8 hF
        rw [h1] at hp8; simp at hp8; unfold BIG; omega
      exact wrapD hq
    rw [hidx]
    have hrow : (pRows x.1)[q.length]? = some [vS (bs t.text)] := by rw [h1]; simp [pRows]
    have hch : ∃ c r, t.text = c :: r ∧ decide ((c.toNat : Int) ≥ 97) = x.2 := by
      cases hx : x.2 with
      | true =>
        rw [hx] at h3
        obtain ⟨c, r, e1, e2⟩ := hgt.2.1 h3
        refine ⟨c, r, e1, decide_eq_true ?_⟩
        simp only [Lx.low, Bool.and_eq_true, decide_eq_true_eq, UInt8.le_iff_toNat_le] at e2
        have : (97 : UInt8).toNat = 97 := rfl
        omega
      | false =>
        rw [hx] at h3
        obtain ⟨c, r, e1, e2⟩ := hgt.2.2.1 h3
        refine ⟨c, r, e1, decide_eq_false ?_⟩
        simp only [Lx.high, Bool.and_eq_true, decide_eq_true_eq, UInt8.le_iff_toNat_le] at e2
        have : (90 : UInt8).toNat = 90 := rfl
        omega
    obtain ⟨c, r, e1, e2⟩ := hch
    refine ⟨bs t.text, ⟨Int.natCast_nonneg _, by rw [Int.toNat_natCast]; exact hrow⟩, c, ⟨by decide, by rw [e1]; rfl⟩, ?_⟩
    rw [e2]
    refine wp_if2 (fun hne => ?_) (fun hne => ⟨rfl, ?_⟩)
    · -- the last name is not of the sort
      have hlo : lo = true ∧ x.2 = false := by
        cases lo with
        | true => exact ⟨rfl, by simpa using hne⟩
        | false =>
          have : x.2 = true := by simpa using hne
          exact absurd (h4 this) (by decide)
      have hFn : ((path z lo (!lo) (pl z (L.drop k0)) [] (L.drop k0)).bind fun x r => Res.ok x.1 r) = .no 11 (pl z (L.drop k)) := by
        have hF' := hF
        rw [hlo.1] at hF' ⊢
        rw [Bool.not_true, path_low _ (Nat.le_refl _), hF']
        simp only [Res.bind, hlo.2, Bool.false_eq_true, if_false]
      rw [hFn]
      refine wp_if2 (fun _ => ?_) (fun h => absurd h (by decide))
      cases hD : L.drop k with
      | nil => exact wp_if2 (lt_len hD) (fun _ => ⟨rfl, rfl, rfl, qq_no (k := k) (e := 11) rfl (by decide) ⟨_, rfl⟩⟩)
      | cons t' r' => exact wp_if2 (fun _ => ⟨_, _, _, _, rowk (dropc hD).2.1, rfl, rfl, rfl, qq_no (k := k) (e := 11) rfl (by decide) ⟨_, rfl⟩⟩) (not_lt hD)
    · refine qq_ok (a := x.1) (k := k) (l := L.drop k) ?_ rfl hk rfl
      cases lo with
      | true =>
        have hx : x.2 = true := by simpa using hne
        rw [Bool.not_true, path_low _ (Nat.le_refl _), hF]
        simp only [Res.bind, hx, if_true]
      | false => rw [Bool.not_false, hF]; rfl
  · refine qq_no ?_ he ⟨_, rfl⟩
    cases lo with
    | true => rw [Bool.not_true, path_low _ (Nat.le_refl _), hF]; rfl
    | false => rw [Bool.not_false, hF]; rfl
end Go.Proofs
end

section
/- PARSE: the document's reader: types -/
set_option linter.unusedVariables false
set_option linter.unusedSimpArgs false
set_option maxRecDepth 100000
open Go Go.Eng Go.Pa
open Go.Lx (T Tok)
namespace Go.Proofs
theorem y_rpairTy (L : List Tok) (z k e p : Nat) (i : Int) (s : ByteArray) (l1 l2 l3 : List (List AV)) (i1 i2 i3 i4 : Int) : ((((((((((X_rpairTy (tks L) z k e p).I i).S s).R l1).R l2).R l3).I i1).I i2).I i3).I i4).T = Y_rpairTy (tks L) z k e p i s l1 l2 l3 i1 i2 i3 i4 := by delta X_rpairTy Y_rpairTy; rfl
/-- The types' rules of the document's reader, by fuel. -/
structure QT (L : List Tok) (z n : Nat) : Prop where
  ty : ∀ {k : Nat}, k ≤ L.length → 8 * (L.length - k) + 3 ≤ n → QC tyV shTy (pTy z n (L.drop k)) L z f_waferref05_Reader_Ty [.ptr 0 0] (qH L z k 0 0)
  pair : ∀ {k : Nat}, k ≤ L.length → 8 * (L.length - k) + 2 ≤ n → QC tyV shTy (pPair z n (L.drop k)) L z f_waferref05_Reader_pairTy [.ptr 0 0] (qH L z k 0 0)
  aty : ∀ {k : Nat}, k ≤ L.length → 8 * (L.length - k) + 1 ≤ n → QC tyV shTy (pAty z n (L.drop k)) L z f_waferref05_Reader_atomTy [.ptr 0 0] (qH L z k 0 0)
theorem dlen {L : List Tok} {j k : Nat} (hk : k ≤ L.length) (hj : j ≤ L.length) (h : (L.drop j).length < (L.drop k).length) : k < j := by
  simp at h; omega
theorem ex_drop1 (t : T) : (bs t).extract (Int.toNat 1) (((bs t).size : Int).toNat) = bs (t.drop 1) := by
  apply tx_inj
  rw [tx_ext, Int.toNat_natCast]
  have hsz : (bs t).size = t.length := by simp [bs, ByteArray.size]
  rw [hsz]
  show (t.drop 1).take (t.length - 1) = t.drop 1
  exact List.take_of_length_le (by simp)
theorem qt_all {L : List Tok} (z : Nat) (hg : Gd L) (hL : L.length ≤ 100000) : ∀ n, QT L z n := by
  have hLB : L.length < BIG := by unfold BIG; omega
  intro n
  induction n using Nat.strongRecOn with
  | ind n ih =>
  cases n with
  | zero => exact ⟨fun _ h => by omega, fun _ h => by omega, fun _ h => by omega⟩
  | succ n =>
  have I := ih n (Nat.lt_succ_self n)
  constructor
  · -- Ty
    intro k hk hn
    generalize hX : pTy z (n + 1) (L.drop k) = X
    rw [pTy] at hX
    refine qc_of (wp_eq2 (X_rTy_eq ..) (wq_ty (I.pair hk (by omega)) (fun t j hF hj => wp_stage (wp_if2 (fun _ => ?_) (fun h => absurd h (by decide)))) (fun e p j i m a b hF he => wp_stage (wp_if2 (fun h => by rw [eq0i he] at h; cases h) (fun _ => wp_done (wp_eq2 (X_rTys1_eq ..) (wp_if2 (fun _ => ⟨rfl, qq_no (by rw [← hX, hF]; rfl) he ⟨_, _, _, _, rfl⟩⟩) (fun h => by rw [ne0i he] at h; cases h))))))))
    rw [hF] at hX
    simp only [Res.bind] at hX
    have hl := dlen hk hj ((lenT z n).pair hF)
    refine wq_take hLB hj (fun hw hd hj1 => ?_) (fun hw => wp_done (wp_eq2 (X_rTys1_eq ..) (wp_if2 (fun h => absurd h (by decide)) (fun _ => ⟨rfl, qq_ok (a := t) (k := j) ?_ rfl hj (tyV_eq t)⟩))))
    · have hw1 : isW wArrow (L.drop j) = true := hw
      rw [if_pos hw1, ← hd] at hX
      refine wq_ty (I.ty hj1 (by omega)) (fun u j2 hF2 hj2 => wp_done (wp_eq2 (X_rTys1_eq ..) (wp_if2 (fun h => absurd h (by decide)) (fun _ => ⟨rfl, qq_ok (a := .fn t u) (k := j2) (l := L.drop j2) (by rw [← hX, hF2]) rfl hj2 ?_⟩)))) (fun e p j2 i m a b hF2 he => wp_done (wp_eq2 (X_rTys1_eq ..) (wp_if2 (fun _ => ⟨rfl, qq_no (by rw [← hX, hF2]) he ⟨_, _, _, _, rfl⟩⟩) (fun h => by rw [ne0i he] at h; cases h))))
      rw [← tyV_eq, show tyQ (.fn t u) = [avs t.row, avs u.row] from rfl, ty_row, ty_row]; rfl
    · have hw1 : isW wArrow (L.drop j) = false := hw
      rw [← hX, if_neg (by rw [hw1]; decide)]
  · -- pairTy
    intro k hk hn
    generalize hX : pPair z (n + 1) (L.drop k) = X
    rw [pPair] at hX
    -- the loop, from any state
    have lp : ∀ {t0 : KT} {QD : List (St → Prop)} (f0 : Nat) (c0 : List AV) (j0 e0 p0 : Nat) (i : Int) (s : ByteArray) (l1 l2 l3 : List (List AV)) (i1 i2 i3 i4 : Int), t0 = Y_rpairTy (tks L) z k (0 : Nat) (0 : Nat) i s l1 l2 l3 i1 i2 i3 i4 →
        t0.atLoop = some ⟨tm2 14 [(0, (.ptr 0 0)), (2, (.lp 2 0 0)), (3, (.lp 3 0 0))], lm2 14 [(2, (0, [(vI (0)), (vS ((⟨#[]⟩ : ByteArray))), (.slice 0 [] .full), (.slice 0 [] .full)])), (3, (0, c0))], ⟨qH L z j0 e0 p0, [], .none, 1⟩⟩ →
        ((e0 = 0 ∧ p0 = 0 ∧ f0 ≤ n ∧ 8 * (L.length - j0) + 1 ≤ f0 ∧ j0 ≤ L.length ∧ ∃ fl t, c0 = tCells fl t ∧ X = pPairs z f0 t (L.drop j0) ∧ (fl = true → ∃ a b, t = .pair a b)) ∨ (e0 ≠ 0 ∧ X = .no e0 p0 ∧ ((∃ k n p q, c0 = [vI k, vS n, .slice 1 p .no, .slice 4 q .no]) ∨ ∃ r1 r2, c0 = [vI 4, vS ⟨#[]⟩, .slice 0 [] .full, .slice 4 [r1, r2] .full]))) →
        t0.wp Pg cfg0 evp QD (Qq tyV shTy X L z) := by
      intro t0 QD f0 c0 j0 e0 p0 i s l1 l2 l3 i1 i2 i3 i4 ht0 hat h0
      subst ht0
      refine loop5 (fun x : Nat × List AV × Nat × Nat × Nat => ⟨tm2 14 [(0, (.ptr 0 0)), (2, (.lp 2 0 0)), (3, (.lp 3 0 0))], lm2 14 [(2, (0, [(vI (0)), (vS ((⟨#[]⟩ : ByteArray))), (.slice 0 [] .full), (.slice 0 [] .full)])), (3, (0, x.2.1))], ⟨qH L z x.2.2.1 x.2.2.2.1 x.2.2.2.2, [], .none, 1⟩⟩)
        (fun x => (x.2.2.2.1 = 0 ∧ x.2.2.2.2 = 0 ∧ x.1 ≤ n ∧ 8 * (L.length - x.2.2.1) + 1 ≤ x.1 ∧ x.2.2.1 ≤ L.length ∧ ∃ fl t, x.2.1 = tCells fl t ∧ X = pPairs z x.1 t (L.drop x.2.2.1) ∧ (fl = true → ∃ a b, t = .pair a b)) ∨ (x.2.2.2.1 ≠ 0 ∧ X = .no x.2.2.2.1 x.2.2.2.2 ∧ ((∃ k n p q, x.2.1 = [vI k, vS n, .slice 1 p .no, .slice 4 q .no]) ∨ ∃ r1 r2, x.2.1 = [vI 4, vS ⟨#[]⟩, .slice 0 [] .full, .slice 4 [r1, r2] .full])))
        (fun x => if x.2.2.2.1 = 0 then L.length - x.2.2.1 + 1 else 0) (f0, c0, j0, e0, p0) hat h0 ?_
      rintro ⟨f, c, j, e, p⟩ h
      dsimp only at h ⊢
      rcases h with ⟨he, hp, hfn, hf, hj, fl, t, hc, hF, hfl⟩ | ⟨he, hF, ⟨k', n', p', q', hc⟩ | ⟨r1, r2, hc⟩⟩
      · subst he hp hc
        cases f with
        | zero => omega
        | succ f =>
        have I2 := ih f (by omega)
        rw [pPairs] at hF
        cases fl with
        | false =>
          refine wp_eq2 (X_rpairTyA_eq ..) (wq_take hLB hj (fun hw hd hj1 => ?_) (fun hw => wp_out ⟨rfl, qq_ok (a := t) (k := j) ?_ rfl hj (tyV_eq t)⟩))
          · have hw1 : isW wStar (L.drop j) = true := hw
            rw [if_pos hw1, ← hd] at hF
            refine wq_ty (I2.aty hj1 (by omega)) (fun u j2 hF2 hj2 => ?_) (fun e p j2 i m a b hF2 he => ?_)
            · have hl3 := dlen hj1 hj2 ((lenT z f).aty hF2)
              refine wp_done ⟨(f, tCells true (.pair t u), j2, 0, 0), ⟨.inl ⟨rfl, rfl, by dsimp only; omega, by dsimp only; omega, hj2, true, .pair t u, rfl, by rw [hF, hF2]; rfl, fun _ => ⟨t, u, rfl⟩⟩, by dsimp only; rw [if_pos rfl, if_pos rfl]; omega⟩, ?_⟩
              simp only [tCells, tyQ_pair]
            · refine wp_done ⟨(0, _, j2, e, p), ⟨.inr ⟨he, by rw [hF, hF2]; rfl, .inr ⟨_, _, rfl⟩⟩, by dsimp only; rw [if_neg he, if_pos rfl]; omega⟩, rfl⟩
          · have hw1 : isW wStar (L.drop j) = false := hw
            rw [hF, if_neg (by rw [hw1]; decide)]
        | true =>
          obtain ⟨x, y, rfl⟩ := hfl rfl
          refine wp_eq2 (X_rpairTyB_eq (r1 := avs x.row) (r2 := avs y.row) ..) (wq_take hLB hj (fun hw hd hj1 => ?_) (fun hw => wp_out ⟨rfl, qq_ok (a := .pair x y) (k := j) ?_ rfl hj rfl⟩))
          · have hw1 : isW wStar (L.drop j) = true := hw
            rw [if_pos hw1, ← hd] at hF
            refine wq_ty (I2.aty hj1 (by omega)) (fun u j2 hF2 hj2 => ?_) (fun e p j2 i m a b hF2 he => ?_)
            · have hl3 := dlen hj1 hj2 ((lenT z f).aty hF2)
              refine wp_done ⟨(f, tCells true (.pair (.pair x y) u), j2, 0, 0), ⟨.inl ⟨rfl, rfl, by dsimp only; omega, by dsimp only; omega, hj2, true, .pair (.pair x y) u, rfl, by rw [hF, hF2]; rfl, fun _ => ⟨_, u, rfl⟩⟩, by dsimp only; rw [if_pos rfl, if_pos rfl]; omega⟩, ?_⟩
              simp only [tCells]
              rw [tyQ_pair]; rfl
            · refine wp_done ⟨(0, _, j2, e, p), ⟨.inr ⟨he, by rw [hF, hF2]; rfl, .inr ⟨_, _, rfl⟩⟩, by dsimp only; rw [if_neg he, if_pos rfl]; omega⟩, rfl⟩
          · have hw1 : isW wStar (L.drop j) = false := hw
            rw [hF, if_neg (by rw [hw1]; decide)]
      · subst hc
        exact wp_eq2 (X_rpairTyA_eq ..) (wb_take he (wp_out ⟨rfl, qq_no hF he ⟨_, _, _, _, rfl⟩⟩))
      · subst hc
        exact wp_eq2 (X_rpairTyB_eq ..) (wb_take he (wp_out ⟨rfl, qq_no hF he ⟨_, _, _, _, rfl⟩⟩))
    refine qc_of (wp_eq2 (X_rpairTy_eq ..) (wq_ty (I.aty hk (by omega)) (fun t j hF hj => ?_) (fun e p j i m a b hF he => ?_)))
    · rw [hF] at hX
      have hl := dlen hk hj ((lenT z n).aty hF)
      exact lp n (tCells false t) j 0 0 _ _ _ _ _ _ _ _ _ (y_rpairTy ..) (by kernel_rfl) (.inl ⟨rfl, rfl, Nat.le_refl _, by omega, hj, false, t, rfl, hX.symm, fun h => by cases h⟩)
    · exact lp 0 [vI i, vS m, .slice 1 a .no, .slice 4 b .no] j e p _ _ _ _ _ _ _ _ _ (y_rpairTy ..) (by kernel_rfl) (.inr ⟨he, by rw [← hX, hF]; rfl, .inl ⟨_, _, _, _, rfl⟩⟩)
  · -- atomTy
    intro k hk hn
    generalize hX : pAty z (n + 1) (L.drop k) = X
    rw [pAty] at hX
    -- a word that is a type
    have word : ∀ {QD : List (St → Prop)} (w : T), isW w (L.drop k) = true → X = .ok (.con [w]) (L.drop k).tail →
        (KT.exI fun i => .exS fun s => .exI fun i1 => .exI fun i2 => .row (tks L) (IntKind.i64.wrap (IntKind.i64.wrap ((k : Int) + 1) - 1)) [vI i, vS s, vI i1, vI i2]
          (.out (.need true (.ret ⟨.ret (.agg [vI 2, vS ⟨#[]⟩, .slice 1 [[vS s]] .no, .slice 4 [] .no]), .none, [hp5 (tks L) z (IntKind.i64.wrap ((k : Int) + 1)) (0 : Nat) (0 : Nat)]⟩)))).wp Pg cfg0 evp (QD) (Qq tyV shTy X L z) ∨ QD = [] := by
      intro QD w hw hx
      cases QD with
      | nil => exact .inr rfl
      | cons Q QD =>
        left
        cases hD : L.drop k with
        | nil => rw [hD] at hw; cases hw
        | cons t r =>
          obtain ⟨d1, d2, d3⟩ := dropc hD
          rw [wrapUD (by omega), wrapU (by omega)]
          rw [hD] at hw hx
          have ht : t.text = w := by
            simp only [isW, Bool.and_eq_true, decide_eq_true_eq] at hw
            exact hw.2
          exact ⟨_, _, _, _, rowk d2, wp_out ⟨rfl, qq_ok (a := .con [w]) (k := k + 1) hx d3 d1 (by rw [← ht]; rfl)⟩⟩
    refine qc_of (wp_eq2 (X_ratomTy_eq ..) (wp_stage ⟨_, c_rIs L z k _, wp_if2 (fun hw => ?_) (fun hw => ⟨_, c_rIs L z k _, wp_if2 (fun hw2 => ?_) (fun hw2 => ⟨_, c_rIs L z k _, wp_if2 (fun hw3 => ?_) (fun hw3 => wp_done (wp_eq2 (X_ratomTys1_eq ..) ⟨_, c_rkind L z k 5, wp_if2 (fun h5 => ?_) (fun h5 => ?_)⟩))⟩)⟩)⟩))
    · have hw1 : isW wInt (L.drop k) = true := hw
      exact (word wInt hw1 (by rw [← hX, if_pos hw1])).resolve_right (by simp)
    · have hw1 : isW wInt (L.drop k) = false := hw
      have hw1' : isW wBool (L.drop k) = true := hw2
      exact (word wBool hw1' (by rw [← hX, if_neg (by rw [hw1]; decide), if_pos hw1'])).resolve_right (by simp)
    · have hw1 : isW wInt (L.drop k) = false := hw
      have hw1' : isW wBool (L.drop k) = false := hw2
      have hw1'' : isW wUnit (L.drop k) = true := hw3
      exact (word wUnit hw1'' (by rw [← hX, if_neg (by rw [hw1]; decide), if_neg (by rw [hw1']; decide), if_pos hw1''])).resolve_right (by simp)
    · have hw1 : isW wInt (L.drop k) = false := hw
      have hw1' : isW wBool (L.drop k) = false := hw2
      have hw1'' : isW wUnit (L.drop k) = false := hw3
      rw [if_neg (by rw [hw1]; decide), if_neg (by rw [hw1']; decide), if_neg (by rw [hw1'']; decide), if_pos h5] at hX
      cases hD : L.drop k with
      | nil => rw [hD] at h5; cases h5
      | cons t r =>
        obtain ⟨d1, d2, d3⟩ := dropc hD
        rw [hD] at h5 hX
        have hk5 : (t.kind == 5) = true := h5
        have hne := (hg t (List.mem_of_getElem? d2)).1 (by simpa using hk5)
        rw [wrapUD (by omega), wrapU (by omega)]
        have hsz : (bs t.text).size = t.text.length := by simp [bs, ByteArray.size]
        refine ⟨_, _, _, _, rowk d2, decide_eq_true ⟨by decide, ?_, Int.le_refl _⟩, rfl, qq_ok (a := .var (t.text.drop 1)) (k := k + 1) hX.symm d3 d1 ?_⟩
        · have : 0 < t.text.length := List.length_pos_iff.2 hne
          show (1 : Int) ≤ ((bs t.text).size : Int)
          omega
        · have := ex_drop1 t.text
          show AV.agg [vI 1, vS ((bs t.text).extract (Int.toNat 1) (((bs t.text).size : Int).toNat)), _, _] = _
          rw [this]; rfl
    · have hw1 : isW wInt (L.drop k) = false := hw
      have hw1' : isW wBool (L.drop k) = false := hw2
      have hw1'' : isW wUnit (L.drop k) = false := hw3
      have h5' : ofK 5 (L.drop k) = false := h5
      rw [if_neg (by rw [hw1]; decide), if_neg (by rw [hw1']; decide), if_neg (by rw [hw1'']; decide), if_neg (by rw [h5']; decide)] at hX
      refine wq_take hLB hk (fun hw hd hj1 => ?_) (fun hw => ?_)
      · have hwo : isW wOpen (L.drop k) = true := hw
        rw [if_pos hwo, ← hd] at hX
        refine wq_ty (I.ty hj1 (by omega)) (fun t j hF hj => ?_) (fun e p j i m a b hF he => wb_unit b_rNeed he ⟨rfl, qq_no (by rw [← hX, hF]; rfl) he ⟨_, _, _, _, rfl⟩⟩)
        rw [hF] at hX
        simp only [Res.bind] at hX
        refine wq_unit (c_rNeed hLB hj) (fun u j2 hF2 hj2 => ⟨rfl, qq_ok (a := t) (k := j2) (l := L.drop j2) ?_ rfl hj2 (tyV_eq t)⟩) (fun e p j2 hF2 he => ⟨rfl, qq_no ?_ he ⟨_, _, _, _, rfl⟩⟩)
        · have hF2' : need z wClose (L.drop j) = .ok u (L.drop j2) := hF2
          rw [← hX, hF2']
        · have hF2' : need z wClose (L.drop j) = .no e p := hF2
          rw [← hX, hF2']
      · have hwo : isW wOpen (L.drop k) = false := hw
        rw [if_neg (by rw [hwo]; decide)] at hX
        refine wq_strs (v := fun x : List T => x) (c_rPath (lo := true) hg hL hk) (fun p j hF hj => ⟨rfl, qq_ok (a := .con p) (k := j) (l := L.drop j) ?_ rfl hj ?_⟩) (fun e p j l hF he => ⟨rfl, qq_no ?_ he ⟨_, _, _, _, rfl⟩⟩)
        · rw [← hX]
          simp only [Bool.not_true] at hF
          cases hp : path z true false (pl z (L.drop k)) [] (L.drop k) with
          | ok x r' => rw [hp] at hF; simp only [Res.bind] at hF ⊢; injection hF with e1 e2; rw [e1, e2]
          | no e p => rw [hp] at hF; cases hF
        · rw [← tyV_eq]; rfl
        · rw [← hX]
          simp only [Bool.not_true] at hF
          cases hp : path z true false (pl z (L.drop k)) [] (L.drop k) with
          | ok x r' => rw [hp] at hF; cases hF
          | no e' p' => rw [hp] at hF; simp only [Res.bind] at hF ⊢; injection hF with e1 e2; rw [e1, e2]
end Go.Proofs
end
