/- Texts of this proof folded into one: R3 R4 TE RX8 U2 U3 R0b. -/
import Derived.Test.YtmdjdcnabbapgaaGreatDoorH16
import Derived.Test.YtmdjdcnabbapgaaGreatDoorH7
import Derived.Test.YtmdjdcnabbapgaaGreatDoorH15
section
/- PARSE: the program's reader: path, Path -/
set_option linter.unusedVariables false
set_option linter.unusedSimpArgs false
set_option maxRecDepth 100000
open Go Go.Eng Go.Pa
open Go.Lx (T Tok)
namespace Go.Proofs
abbrev pRows (p : List T) : List (List AV) := p.map fun t => [vS (bs t)]
def pY : List T → AV
  | [] => .slice 0 [] .full
  | t :: p => .slice 1 (pRows (t :: p)) .yes
theorem path_nil {z : Nat} {a b : Bool} {s : Nat} {p : List T} : path z a b s p [] = .no 11 z := by rw [path]
theorem path_cons {z : Nat} {a b : Bool} {s : Nat} {p : List T} {t : Tok} {l : List Tok} : path z a b s p (t :: l) =
    if t.kind == 2 || (t.kind == 1 && a) then
      if 8 < p.length + 1 then .no 3 s
      else if t.kind == 1 then .ok (p ++ [t.text], true) l
      else match l with
        | [] => if b then .ok (p ++ [t.text], false) [] else .no 11 z
        | d :: l' => if isW wDot [d] then path z a b s (p ++ [t.text]) l'
            else if b then .ok (p ++ [t.text], false) (d :: l') else .no 11 d.at_
    else .no 11 t.at_ := by
  conv => lhs; unfold path
  cases l <;> rfl
section
variable {QD : List (St → Prop)} {z d : Nat} {F : Res (List T × Bool)}
/-- The end of a round: the name is a last one, or a point stands behind it. -/
theorem path_tail {b1 b2 : Bool} {P : List (List AV)} {r : List Tok} {p' : List T} {S : List (List AV) → Int → Int → Int → Int → St} {Q : St → Prop} (hd : 0 < d) (hB : d < BIG) (hP : P = pRows p')
    (hF : F = if b2 then .ok (p', true) r else match r with
        | [] => if b1 then .ok (p', false) [] else .no 11 z
        | e :: r' => if isW wDot [e] then F else if b1 then .ok (p', false) (e :: r') else .no 11 e.at_)
    (hQ : ∀ e r', b2 = false → r = e :: r' → isW wDot [e] = true → Q (S (tks r') z 0 0 d)) (hg : Gd r) :
    (KT.branch b2 (.out (.need true (.ret ⟨.ret (.tuple [.slice 1 P .no, vB b2]), .none, rH r z d⟩)))
      (.branch b1
        (.exB fun b3 => .call f_parsecore_Reader_Is [.ptr 0 0, vS ⟨#[46]⟩] .none (rH r z d) ⟨.ret (vB b3), .none, rH r z d⟩
          (.branch (!b3) (.out (.need true (.ret ⟨.ret (.tuple [.slice 1 P .no, vB b2]), .none, rH r z d⟩)))
            (.alt (.exR fun m => .exI fun a => .exI fun e => .exI fun p => .exI fun d' => .call f_parsecore_Reader_Need [.ptr 0 0, vS ⟨#[46]⟩] .none (rH r z d) ⟨.ret (.tuple []), .none, [hp5 m a e p d']⟩ (.done (S m a e p d')))
              (.exR fun m => .exI fun a => .exI fun e => .exI fun p => .exI fun d' => .call f_parsecore_Reader_Need [.ptr 0 0, vS ⟨#[46]⟩] .none (rH r z d) ⟨.panic failV, .none, [hp5 m a e p d']⟩ (.out (.need true (.ret ⟨.panic failV, .none, [hp5 m a e p d']⟩)))))))
        (.alt (.exR fun m => .exI fun a => .exI fun e => .exI fun p => .exI fun d' => .call f_parsecore_Reader_Need [.ptr 0 0, vS ⟨#[46]⟩] .none (rH r z d) ⟨.ret (.tuple []), .none, [hp5 m a e p d']⟩ (.done (S m a e p d')))
              (.exR fun m => .exI fun a => .exI fun e => .exI fun p => .exI fun d' => .call f_parsecore_Reader_Need [.ptr 0 0, vS ⟨#[46]⟩] .none (rH r z d) ⟨.panic failV, .none, [hp5 m a e p d']⟩ (.out (.need true (.ret ⟨.panic failV, .none, [hp5 m a e p d']⟩))))))).wp Pg cfg0 evp (Q :: QD) (Rq pathV F z d) := by
  subst hP
  have key : ∀ b, b2 = false → (b = false ∨ isW wDot r = true) → b1 = b ∨ isW wDot r = true → (KT.alt (.exR fun m => .exI fun a => .exI fun e => .exI fun p => .exI fun d' => .call f_parsecore_Reader_Need [.ptr 0 0, vS ⟨#[46]⟩] .none (rH r z d) ⟨.ret (.tuple []), .none, [hp5 m a e p d']⟩ (.done (S m a e p d')))
              (.exR fun m => .exI fun a => .exI fun e => .exI fun p => .exI fun d' => .call f_parsecore_Reader_Need [.ptr 0 0, vS ⟨#[46]⟩] .none (rH r z d) ⟨.panic failV, .none, [hp5 m a e p d']⟩ (.out (.need true (.ret ⟨.panic failV, .none, [hp5 m a e p d']⟩))))).wp Pg cfg0 evp (Q :: QD) (Rq pathV F z d) := by
    intro b h2 hb hb1
    refine wp_unit (c_pNeed hg hd hB) (fun u l hn _ => ?_) (fun e p l hn he => wp_out ⟨rfl, rq_no ?_ he⟩)
    · cases r with
      | nil => cases hn
      | cons e r' =>
        have hw : isW wDot [e] = true := by
          cases hw : isW wDot [e] with
          | true => rfl
          | false =>
            have hw2 : isW (tx ⟨#[46]⟩) (e :: r') = false := hw
            unfold need at hn; rw [hw2] at hn; cases hn
        have hw2 : isW (tx ⟨#[46]⟩) (e :: r') = true := hw
        unfold need at hn
        rw [if_pos hw2] at hn
        injection hn with _ hn
        subst hn
        exact wp_done (hQ e r' h2 rfl hw)
    · rw [h2] at hF
      cases r with
      | nil =>
        have e1 : need z (tx ⟨#[46]⟩) [] = .no 11 z := rfl
        rw [e1] at hn
        injection hn with n1 n2
        subst n1 n2
        rcases hb with hb | hb
        · rcases hb1 with h | h
          · rw [h, hb] at hF; exact hF
          · cases h
        · cases hb
      | cons e' r' =>
        cases hw : isW wDot [e'] with
        | true =>
          have hw2 : isW (tx ⟨#[46]⟩) (e' :: r') = true := hw
          unfold need at hn; rw [hw2] at hn; cases hn
        | false =>
          have hw2 : isW (tx ⟨#[46]⟩) (e' :: r') = false := hw
          have hw3 : isW wDot (e' :: r') = false := hw
          unfold need at hn
          rw [hw2] at hn
          injection hn with n1 n2
          subst n1 n2
          rcases hb with hb | hb
          · rcases hb1 with h | h
            · rw [h, hb] at hF; simp only [hw, Bool.false_eq_true, if_false] at hF; exact hF
            · rw [hw3] at h; cases h
          · rw [hw3] at hb; cases hb
  refine wp_if2 (fun h2 => ?_) (fun h2 => wp_if2 (fun h1 => ?_) (fun h1 => key false h2 (.inl rfl) (.inl h1)))
  · rw [h2, if_pos rfl] at hF
    exact wp_out ⟨rfl, rq_ok hF hg (by rw [h2])⟩
  · refine ⟨_, c_pIs r z d _, wp_if2 (fun hw => ?_) (fun hw => ?_)⟩
    · have hw : isW (tx ⟨#[46]⟩) r = false := by simpa using hw
      rw [h2] at hF
      refine wp_out ⟨rfl, rq_ok (a := (p', false)) ?_ hg (by rw [h2])⟩
      rw [hF]
      cases r with
      | nil => simp only [h1, if_true, Bool.false_eq_true, if_false]
      | cons e r' =>
        have hw' : isW wDot [e] = false := hw
        simp only [h1, hw', if_true, Bool.false_eq_true, if_false]
    · have hw : isW (tx ⟨#[46]⟩) r = true := by simpa using hw
      exact key b1 h2 (.inr hw) (.inl rfl)
/-- The beginning of a round: a name stands next. -/
theorem path_head {b b1 : Bool} {st : Nat} {p : List T} {m : List Tok} {s : Bool → St} {K : Bool → St → KT} {Q : St → Prop}
    (hF : F = path z b b1 st p m)
    (hgo : ∀ t r, m = t :: r → (t.kind == 2 || (t.kind == 1 && b)) = true → (K (t.kind == 1) (s (t.kind == 1))).wp Pg cfg0 evp (Q :: QD) (Rq pathV F z d)) :
    (KT.exB fun b2 => .call f_parsecore_Reader_of [.ptr 0 0, vI 1] .none (rH m z d) ⟨.ret (vB b2), .none, rH m z d⟩
      (.stage (.exB fun b3 => .call f_parsecore_Reader_of [.ptr 0 0, vI 2] .none (rH m z d) ⟨.ret (vB b3), .none, rH m z d⟩
        (.branch (!b3)
          (.branch b2
            (.branch (!b)
              (.branch (((tks m).length : Int) == 0)
                (.need true (.need true (.out (.out (.need true (.ret ⟨.panic failV, .none, [hp5 (tks m) z 11 z d]⟩))))))
                (.exI fun i3 => .exS fun s1 => .exI fun i4 => .exI fun i5 => .row (tks m) 0 [vI i3, vS s1, vI i4, vI i5]
                  (.need true (.need true (.out (.out (.need true (.ret ⟨.panic failV, .none, [hp5 (tks m) z 11 i5 d]⟩))))))))
              (.done (s b2)))
            (.branch (((tks m).length : Int) == 0)
              (.need true (.need true (.out (.out (.need true (.ret ⟨.panic failV, .none, [hp5 (tks m) z 11 z d]⟩))))))
              (.exI fun i3 => .exS fun s1 => .exI fun i4 => .exI fun i5 => .row (tks m) 0 [vI i3, vS s1, vI i4, vI i5]
                (.need true (.need true (.out (.out (.need true (.ret ⟨.panic failV, .none, [hp5 (tks m) z 11 i5 d]⟩)))))))))
          (.done (s b2)))) (K b2))).wp Pg cfg0 evp (Q :: QD) (Rq pathV F z d) := by
  cases m with
  | nil =>
    rw [path_nil] at hF
    exact ⟨_, c_pof [] z d 1, wp_stage ⟨_, c_pof [] z d 2, wp_if2 (fun _ => wp_if2 nf fun _ => wp_if2 (fun _ => ⟨rfl, rfl, wp_out (wp_out ⟨rfl, rq_no (l := []) hF (by decide)⟩)⟩) (fun h => absurd h (by decide))) tf⟩⟩
  | cons t r =>
    have h2 : ofK 2 (t :: r) = (t.kind == 2) := rfl
    have h1 : ofK 1 (t :: r) = (t.kind == 1) := rfl
    have hfail : (t.kind == 2 || (t.kind == 1 && b)) = false → Rq pathV F z d ⟨.panic failV, .none, [hp5 (tks (t :: r)) z 11 t.at_ d]⟩ := fun hc => by
      refine rq_no (e := 11) ?_ (by decide)
      rw [hF, path_cons, hc]; rfl
    refine ⟨_, c_pof (t :: r) z d 1, wp_stage ⟨_, c_pof (t :: r) z d 2, wp_if2 (fun hk2 => ?_) (fun hk2 => ?_)⟩⟩
    · have hk2 : (t.kind == 2) = false := by rw [← h2]; simpa using hk2
      refine wp_if2 (fun hk1 => wp_if2 (fun hb => ?_) (fun hb => ?_)) (fun hk1 => ?_)
      · have hb : b = false := by simpa using hb
        exact wp_if2 len0 (fun _ => ⟨_, _, _, _, row0, rfl, rfl, wp_out (wp_out ⟨rfl, hfail (by rw [hk2, hb]; simp)⟩)⟩)
      · have hb : b = true := by simpa using hb
        rw [h1] at hk1
        exact wp_done (hgo t r rfl (by rw [hk1, hb]; simp))
      · rw [h1] at hk1
        exact wp_if2 len0 (fun _ => ⟨_, _, _, _, row0, rfl, rfl, wp_out (wp_out ⟨rfl, hfail (by rw [hk2, hk1]; simp)⟩)⟩)
    · have hk2 : (t.kind == 2) = true := by rw [← h2]; simpa using hk2
      exact wp_done (hgo t r rfl (by rw [hk2]; rfl))
end
theorem c_ppath {l : List Tok} {z d : Nat} {b b1 : Bool} (hg : Gd l) (hd : 0 < d) (hB : d < BIG) : RC pathV (path z b b1 (pl z l) [] l) z d f_parsecore_Reader_path [.ptr 0 0, vB b, vB b1] (rH l z d) := by
  cases l with
  | nil =>
    refine rc_of (wp_eq2 (X_ppath_eq ..) (wp_if2 (fun _ => ⟨rfl, ?_⟩) (fun h => absurd h (by decide))))
    have hY : (X_ppath (tks []) z d b b1).T.T = Y_ppath1 (tks []) z d b b1 := by delta X_ppath Y_ppath1; rfl
    refine wp_eq2 hY (loop5 (fun _ : Unit => ⟨tm2 66 [(0, (.ptr 0 0)), (1, (vB (b))), (2, (vB (b1))), (8, (vI (z))), (9, (.slice 0 [] .full))], lm2 66 [], ⟨[hp5 (tks []) z 0 0 d], [], .none, 1⟩⟩) (fun _ => True) (fun _ => 0) () (by kernel_rfl) trivial ?_)
    intro _ _
    exact wp_eq2 (X_ppath1A_eq ..) (path_head (m := []) (p := []) (b := b) (b1 := b1) (st := z) rfl (fun t r h => by cases h))
  | cons t0 l0 =>
    refine rc_of (wp_eq2 (X_ppath_eq ..) (wp_if2 len0 (fun _ => ⟨_, _, _, _, row0, rfl, ?_⟩)))
    have hY : (((((X_ppath (tks (t0 :: l0)) z d b b1).F.I t0.kind).S ⟨t0.text.toArray⟩).I t0.n).I t0.at_).T.T = Y_ppath2 (tks (t0 :: l0)) z d b b1 t0.kind ⟨t0.text.toArray⟩ t0.n t0.at_ := by delta X_ppath Y_ppath2; rfl
    generalize hFF : path z b b1 (pl z (t0 :: l0)) [] (t0 :: l0) = F
    refine wp_eq2 hY (loop5 (fun x : List T × List Tok => ⟨tm2 66 [(0, (.ptr 0 0)), (1, (vB (b))), (2, (vB (b1))), (8, (vI t0.at_)), (9, pY x.1)], lm2 66 [], ⟨[hp5 (tks x.2) z 0 0 d], [], .none, 1⟩⟩)
      (fun x => F = path z b b1 t0.at_ x.1 x.2 ∧ x.1.length ≤ 8 ∧ Gd x.2) (fun x => x.2.length) ([], t0 :: l0) (by kernel_rfl) ⟨hFF.symm, Nat.zero_le _, hg⟩ ?_)
    rintro ⟨p, m⟩ ⟨hF, hp, hgm⟩
    simp only at hF hp hgm
    have go : ∀ t r, m = t :: r → (t.kind == 2 || (t.kind == 1 && b)) = true → ¬ 8 < p.length + 1 →
        F = if (t.kind == 1) then .ok (p ++ [t.text], true) r else match r with
        | [] => if b1 then .ok (p ++ [t.text], false) [] else .no 11 z
        | e :: r' => if isW wDot [e] then F else if b1 then .ok (p ++ [t.text], false) (e :: r') else .no 11 e.at_ := by
      intro t r hm hc h8
      subst hm
      rw [path_cons, if_pos hc, if_neg h8] at hF
      rw [hF]
      split
      · rfl
      · cases r with
        | nil => rfl
        | cons e r' => simp only; split <;> rfl
    have nxt : ∀ t r, m = t :: r → (t.kind == 2 || (t.kind == 1 && b)) = true → ¬ 8 < p.length + 1 → ∀ e r', (t.kind == 1) = false → r = e :: r' → isW wDot [e] = true → F = path z b b1 t0.at_ (p ++ [t.text]) r' := by
      intro t r hm hc h8 e r' hk hr hw
      subst hm hr
      rw [path_cons, if_pos hc, if_neg h8, if_neg (by rw [hk]; decide)] at hF
      simp only [hw, if_true] at hF
      exact hF
    cases p with
    | nil =>
      refine wp_eq2 (X_ppath2A_eq ..) (path_head hF fun t r hm hc => ?_)
      subst hm
      have h8 : ¬ 8 < ([] : List T).length + 1 := by simp
      refine wp_eq2 (X_ppath2As1_eq ..) ⟨_, _, _, _, row0, rfl, cut1, wp_stage (wp_if2 (fun h => absurd (of_decide_eq_true h) (by simp)) (fun _ => wp_done (wp_eq2 (X_ppath2As2_eq ..) ?_)))⟩
      exact path_tail (p' := [t.text]) (hg := hgm.cons.2) hd hB rfl (go t r rfl hc h8) (fun e r' hk hr hw => ⟨([t.text], r'), ⟨⟨nxt t r rfl hc h8 e r' hk hr hw, by simp, by subst hr; exact hgm.cons.2.cons.2⟩, by subst hr; simp; omega⟩, rfl⟩)
    | cons p0 p =>
      refine wp_eq2 (X_ppath2B_eq (p := pRows (p0 :: p)) ..) (path_head hF fun t r hm hc => ?_)
      subst hm
      refine wp_eq2 (X_ppath2Bs1_eq ..) ⟨_, _, _, _, row0, by rw [Nat.ble_eq]; simp at hp ⊢; omega, cut1, wp_stage (wp_if2 (fun h => ?_) (fun h => wp_done (wp_eq2 (X_ppath2Bs2_eq ..) ?_)))⟩
      · have h := of_decide_eq_true h
        simp only [List.length_append, List.length_map, List.length_cons, List.length_nil] at h
        refine ⟨rfl, wp_out (wp_out ⟨rfl, rq_no (l := r) (e := 3) ?_ (by decide)⟩)⟩
        rw [hF, path_cons, if_pos hc, if_pos (by simp only [List.length_cons]; omega)]
      · have h := of_decide_eq_false h
        simp only [List.length_append, List.length_map, List.length_cons, List.length_nil] at h
        have h8 : ¬ 8 < (p0 :: p).length + 1 := by simp only [List.length_cons]; omega
        exact path_tail (p' := (p0 :: p) ++ [t.text]) (hg := hgm.cons.2) hd hB (by simp only [pRows, List.map_append]; rfl) (go t r rfl hc h8) (fun e r' hk hr hw => ⟨((p0 :: p) ++ [t.text], r'), ⟨⟨nxt t r rfl hc h8 e r' hk hr hw, by simp; omega, by subst hr; exact hgm.cons.2.cons.2⟩, by subst hr; simp; omega⟩, by
          simp only [pY, List.cons_append, pRows, List.map_cons, List.map_append]; rfl⟩)
end Go.Proofs
end

section
/- PARSE: the program's reader: Path; types -/
set_option linter.unusedVariables false
set_option linter.unusedSimpArgs false
set_option maxRecDepth 100000
open Go Go.Eng Go.Pa
open Go.Lx (T Tok)
namespace Go.Proofs
theorem rc_lift {α : Type} {v : α → AV} {F : Res α} {z d : Nat} {g : FuncId} {args : List AV} {l : List Tok} {K : Heap} (c : RC v F z d g args (rH l z d)) (ha : Inv1 args) (hv : ∀ a k, (v a).ren (rho1 k) = v a) (hk : lowss (1 + K.length) K = true) :
    (∃ a m, F = .ok a m ∧ Gd m ∧ evp g args .none (hp5 (tks l) z 0 0 d :: K) = some ⟨.ret (v a), .none, hp5 (tks m) z 0 0 d :: K⟩) ∨ (∃ (e p : Nat) (m : List Tok), F = .no e p ∧ e ≠ 0 ∧ evp g args .none (hp5 (tks l) z 0 0 d :: K) = some ⟨.panic failV, .none, hp5 (tks m) z e p d :: K⟩) := by
  obtain ⟨r, h1, h2⟩ := c
  cases hF : F with
  | ok a m =>
    rw [hF] at h2
    obtain ⟨hg, rfl⟩ := h2
    exact .inl ⟨a, m, rfl, hg, lift5 h1 ha (fun k => by simp only [renOut, hv]) hk⟩
  | no e p =>
    rw [hF] at h2
    obtain ⟨he, m, rfl⟩ := h2
    exact .inr ⟨e, p, m, rfl, he, lift5 h1 ha (fun k => rfl) hk⟩
theorem lows_pRows (n : Nat) (p : List T) : lowss n (pRows p) = true := by
  have := low_avss n (p.map fun t => [cs t])
  rwa [avss_path] at this
theorem ren_pRows (ρ : Nat → Nat) (p : List T) : renss ρ (pRows p) = pRows p := by
  have := ren_avss ρ (p.map fun t => [cs t])
  rwa [avss_path] at this
theorem inv_ptr : Inv1 [.ptr 0 0] := fun _ => rfl
theorem inv_ptrBB {b b1 : Bool} : Inv1 [.ptr 0 0, vB b, vB b1] := fun _ => rfl
theorem c_pPath {l : List Tok} {z d : Nat} {b : Bool} (hg : Gd l) (hd : 0 < d) (hB : d + 1 < BIG) : RC strsV ((path z b (!b) (pl z l) [] l).bind fun x r => .ok x.1 r) z d f_parsecore_Reader_Path [.ptr 0 0, vB b] (rH l z d) := by
  have h1 := wrapU (d := d) (by omega)
  have h2 := wrapD (d := d) (by omega)
  have hpos : decide (IntKind.i64.wrap (((d + 1 : Nat) : Int) - 1) > 0) = true := by rw [h2]; exact decide_eq_true (by omega)
  refine rc_of (wp_eq2 (X_pPath_eq ..) (wp_stage (wp_if2 nf fun _ => wp_if2 (fun h => absurd h (by decide)) fun _ => wp_done (wp_eq2 (X_pPaths1_eq ..) ?_))))
  rw [h1]
  rcases rc_lift (K := [[.slice 0 [] .full]]) (c_ppath (b := b) (b1 := !b) (z := z) hg (Nat.succ_pos d) hB) inv_ptrBB (fun a k => by simp only [pathV, strsV, AV.ren, rens, ren_pRows]; rfl) rfl with ⟨x, m, hF, hgm, c⟩ | ⟨e, p, m, hF, he, c⟩
  · refine .inl ⟨_, _, _, _, _, _, _, [], c, rfl, wp_if2 (fun _ => ⟨lows_pRows .., lows_tks .., rfl, ?_⟩) tf⟩
    rw [h2]; exact rq_ok (a := x.1) (by rw [hF]; rfl) hgm rfl
  · refine .inr ⟨_, _, _, _, _, [], c, rfl, wp_if2 nf fun _ => wp_if2 (fun _ => wp_if2 (fun _ => ⟨lows_tks .., rfl, ?_⟩) (fun h => by rw [hpos] at h; cases h)) tf⟩
    rw [h2]; exact rq_no (by rw [hF]; rfl) he
/-! ### types -/
theorem low_ty (n : Nat) (t : Ty) : lowss n (tyP t) = true ∧ lowss n (tyQ t) = true := by
  have := low_avs n t.row
  rw [ty_row] at this
  simp only [lows, AV.low, Bool.and_eq_true] at this
  exact ⟨this.2.2.1, this.2.2.2.1⟩
theorem ren_tyV (ρ : Nat → Nat) (t : Ty) : (tyV t).ren ρ = tyV t := by
  simp only [tyV, AV.ren, ren_avs]
theorem tyV_eq (t : Ty) : .agg [vI (tyK t), vS (tyN t), .slice 1 (tyP t) .no, .slice 4 (tyQ t) .no] = tyV t := by rw [tyV, ty_row]
/-- A method that guards a rule: at the outermost one the failure ends. -/
def Rm {α : Type} (v : α → AV) (v0 : AV) (F : Res α) (z d : Nat) (r : CRes) : Prop :=
  match F with
  | .ok a l => Gd l ∧ r = ⟨.ret (v a), .none, rH l z d⟩
  | .no e p => e ≠ 0 ∧ ∃ l : List Tok, r = if d = 0 then ⟨.ret v0, .none, rB (tks l) z e p d⟩ else ⟨.panic failV, .none, rB (tks l) z e p d⟩
def RM' {α : Type} (v : α → AV) (v0 : AV) (F : Res α) (z d : Nat) (g : FuncId) (args : List AV) (H : Heap) : Prop := ∃ r, evp g args .none H = some r ∧ Rm v v0 F z d r
theorem rm_pos {α : Type} {v : α → AV} {v0 : AV} {F : Res α} {z d : Nat} {g : FuncId} {args : List AV} {H : Heap} (hd : 0 < d) (h : RM' v v0 F z d g args H) : RC v F z d g args H := by
  obtain ⟨r, h1, h2⟩ := h
  refine ⟨r, h1, ?_⟩
  cases F with
  | ok a l => exact h2
  | no e p =>
    obtain ⟨he, l, h3⟩ := h2
    rw [if_neg (by omega)] at h3
    exact ⟨he, l, h3⟩
theorem rm_ok {α : Type} {v : α → AV} {v0 : AV} {F : Res α} {z d : Nat} {a : α} {l : List Tok} {x : AV} (h : F = .ok a l) (hg : Gd l) (hx : x = v a) : Rm v v0 F z d ⟨.ret x, .none, rH l z d⟩ := by
  subst h hx; exact ⟨hg, rfl⟩
theorem rm_no {α : Type} {v : α → AV} {v0 : AV} {F : Res α} {z d e p : Nat} {l : List Tok} (hd : ¬ d = 0) (h : F = .no e p) (he : e ≠ 0) : Rm v v0 F z d ⟨.panic failV, .none, rB (tks l) z e p d⟩ := by
  subst h; exact ⟨he, l, by rw [if_neg hd]⟩
theorem rm_no0 {α : Type} {v : α → AV} {v0 : AV} {F : Res α} {z d e p : Nat} {l : List Tok} (hd : d = 0) (h : F = .no e p) (he : e ≠ 0) : Rm v v0 F z d ⟨.ret v0, .none, rB (tks l) z e p d⟩ := by
  subst h; exact ⟨he, l, by rw [if_pos hd]⟩
theorem decpos {d : Nat} : decide ((d : Int) > 0) = true → ¬ d = 0 := fun h => by have := of_decide_eq_true h; omega
theorem dec0 {d : Nat} : decide ((d : Int) > 0) = false → d = 0 := fun h => by have := of_decide_eq_false h; omega
abbrev ty0 : AV := .agg [vI 0, vS ⟨#[]⟩, .slice 1 [] .no, .slice 4 [] .no]
/-- The types' rules, by fuel. -/
structure PT (z n : Nat) : Prop where
  ty : ∀ {l : List Tok} {d : Nat}, Gd l → 0 < d → 8 * l.length + 3 ≤ n → d + n < BIG → RC tyV (pTy z n l) z d f_parsecore_Reader_ty [.ptr 0 0] (rH l z d)
  pair : ∀ {l : List Tok} {d : Nat}, Gd l → 0 < d → 8 * l.length + 2 ≤ n → d + n < BIG → RC tyV (pPair z n l) z d f_parsecore_Reader_pairty [.ptr 0 0] (rH l z d)
  aty : ∀ {l : List Tok} {d : Nat}, Gd l → 0 < d → 8 * l.length + 1 ≤ n → d + n < BIG → RC tyV (pAty z n l) z d f_parsecore_Reader_aty [.ptr 0 0] (rH l z d)
theorem ty_guard {z d : Nat} {l : List Tok} {F : Res Ty} (hB : d < BIG) (c : RC tyV F z (d + 1) f_parsecore_Reader_ty [.ptr 0 0] (rH l z (d + 1))) : RM' tyV ty0 F z d f_parsecore_Reader_Ty [.ptr 0 0] (rH l z d) := by
  have h1 := wrapU hB
  have h2 := wrapD hB
  refine kt5_ex (wp_eq2 (X_pTy_eq ..) (wp_stage (wp_if2 nf fun _ => wp_if2 (fun h => absurd h (by decide)) fun _ => wp_done (wp_eq2 (X_pTys1_eq ..) ?_))))
  rw [h1]
  rcases rc_lift (K := [[vI 0, vS ⟨#[]⟩, .slice 0 [] .full, .slice 0 [] .full]]) c inv_ptr (fun a k => ren_tyV _ a) rfl with ⟨t, m, hF, hg, c⟩ | ⟨e, p, m, hF, he, c⟩
  · simp only [tyV, ty_row] at c
    refine .inl ⟨_, _, _, _, _, _, _, _, _, _, _, [], [], c, wp_if2 (fun _ => ⟨(low_ty 1 t).1, (low_ty 1 t).2, lows_tks .., rfl, ?_⟩) tf⟩
    rw [h2]; exact rm_ok hF hg (tyV_eq t)
  · refine .inr ⟨_, _, _, _, _, _, _, [], [], c, wp_if2 nf fun _ => wp_if2 (fun _ => wp_if2 (fun h => ⟨lows_tks .., rfl, ?_⟩) (fun h => ⟨rfl, rfl, lows_tks .., rfl, ?_⟩)) tf⟩
    · rw [h2] at h ⊢; exact rm_no (decpos h) hF he
    · rw [h2] at h ⊢; exact rm_no0 (dec0 h) hF he
theorem PT.Ty {z n : Nat} (h : PT z n) {l : List Tok} {d : Nat} (hg : Gd l) (hn : 8 * l.length + 3 ≤ n) (hB : d + n + 1 < BIG) : RM' tyV ty0 (pTy z n l) z d f_parsecore_Reader_Ty [.ptr 0 0] (rH l z d) :=
  ty_guard (by omega) (h.ty hg (Nat.succ_pos d) hn (by omega))
def tCells : Bool → Ty → List AV
  | false, t => [vI (tyK t), vS (tyN t), .slice 1 (tyP t) .no, .slice 4 (tyQ t) .no]
  | true, t => [vI 4, vS ⟨#[]⟩, .slice 0 [] .full, .slice 4 (tyQ t) .full]
theorem tyQ_pair (a b : Ty) : tyQ (.pair a b) = [[vI (tyK a), vS (tyN a), .slice 1 (tyP a) .no, .slice 4 (tyQ a) .no], [vI (tyK b), vS (tyN b), .slice 1 (tyP b) .no, .slice 4 (tyQ b) .no]] := by
  show [avs a.row, avs b.row] = _
  rw [ty_row, ty_row]
theorem pt_all (z : Nat) : ∀ n, PT z n := by
  intro n
  induction n using Nat.strongRecOn with
  | ind n ih =>
  cases n with
  | zero => exact ⟨fun _ _ h => by omega, fun _ _ h => by omega, fun _ _ h => by omega⟩
  | succ n =>
  have I := ih n (Nat.lt_succ_self n)
  constructor
  · -- ty
    intro l d hg hd hn hB
    refine rc_of (wp_eq2 (X_pty_eq ..) (wp_ty (I.pair hg hd (by omega) (by omega)) (fun t r hF hg1 => ?_) (fun e p r hF he => ⟨rfl, rq_no (by rw [pTy, hF]; rfl) he⟩)))
    have hl := (lenT z n).pair hF
    refine wp_take (c_pTake r z d _) (fun hw => ?_) (fun hw => ⟨rfl, rq_ok (a := t) (l := r) ?_ hg1 (tyV_eq t)⟩)
    · have hw1 : isW wArrow r = true := hw
      have hl2 := isW_len hw1
      refine wp_ty (rm_pos hd (I.Ty hg1.tail (by omega) (by omega))) (fun u r2 hF2 hg2 => ⟨rfl, rq_ok (a := .fn t u) (l := r2) ?_ hg2 ?_⟩) (fun e p r2 hF2 he => ⟨rfl, rq_no ?_ he⟩)
      · rw [pTy, hF]; simp only [Res.bind, hw1, if_true, hF2]
      · rw [← tyV_eq, show tyQ (.fn t u) = [avs t.row, avs u.row] from rfl, ty_row, ty_row]; rfl
      · rw [pTy, hF]; simp only [Res.bind, hw1, if_true, hF2]
    · have hw1 : isW wArrow r = false := hw
      rw [pTy, hF]; simp only [Res.bind, hw1, Bool.false_eq_true, if_false]
  · -- pairty
    intro l d hg hd hn hB
    refine rc_of (wp_eq2 (X_ppairty_eq ..) (wp_ty (I.aty hg hd (by omega) (by omega)) (fun t r hF hg1 => ?_) (fun e p r hF he => ⟨rfl, rq_no (by rw [pPair, hF]; rfl) he⟩)))
    have hl := (lenT z n).aty hF
    have hFF : pPair z (n + 1) l = pPairs z n t r := by rw [pPair, hF]; rfl
    rw [hFF]
    generalize hX : pPairs z n t r = X
    have hY : ((((((((((X_ppairty (tks l) z d).T.I (tyK t)).S (tyN t)).R (tyP t)).R (tyQ t)).R (tks r)).I z).I 0).I 0).I d).T = Y_ppairty (tks l) z d (tyK t) (tyN t) (tyP t) (tyQ t) (tks r) z 0 0 d := by delta X_ppairty Y_ppairty; rfl
    refine wp_eq2 hY (loop5 (fun x : Nat × Bool × Ty × List Tok => ⟨tm2 14 [(0, (.ptr 0 0)), (2, (.lp 2 0 0)), (3, (.lp 3 0 0))], lm2 14 [(2, (0, [(vI (0)), (vS ((⟨#[]⟩ : ByteArray))), (.slice 0 [] .full), (.slice 0 [] .full)])), (3, (0, tCells x.2.1 x.2.2.1))], ⟨[hp5 (tks x.2.2.2) z 0 0 d], [], .none, 1⟩⟩)
      (fun x => X = pPairs z x.1 x.2.2.1 x.2.2.2 ∧ 8 * x.2.2.2.length + 1 ≤ x.1 ∧ x.1 ≤ n ∧ Gd x.2.2.2 ∧ (x.2.1 = true → ∃ a b, x.2.2.1 = .pair a b)) (fun x => x.2.2.2.length) (n, false, t, r) (by kernel_rfl) ⟨hX.symm, by simp only; omega, Nat.le_refl _, hg1, fun h => by cases h⟩ ?_)
    rintro ⟨k, fl, t, m⟩ ⟨hF, hk, hkn, hgm, hfl⟩
    simp only at hF hk hkn hgm hfl
    cases k with
    | zero => omega
    | succ k =>
    have I2 := ih k (by omega)
    rw [pPairs] at hF
    cases fl with
    | false =>
      refine wp_eq2 (X_ppairtyA_eq ..) (wp_take (c_pTake m z d _) (fun hw => ?_) (fun hw => wp_out ⟨rfl, rq_ok (a := t) (l := m) ?_ hgm (tyV_eq t)⟩))
      · have hw1 : isW wStar m = true := hw
        have hl2 := isW_len hw1
        rw [if_pos hw1] at hF
        refine wp_ty (I2.aty hgm.tail hd (by omega) (by omega)) (fun u r2 hF2 hg2 => ?_) (fun e p r2 hF2 he => wp_out ⟨rfl, rq_no (by rw [hF, hF2]; rfl) he⟩)
        have hl3 := (lenT z k).aty hF2
        refine wp_done ⟨(k, true, .pair t u, r2), ⟨⟨by rw [hF, hF2]; rfl, by simp only; omega, by simp only; omega, hg2, fun _ => ⟨t, u, rfl⟩⟩, by simp only; omega⟩, ?_⟩
        simp only [tCells, tyQ_pair]
      · have hw1 : isW wStar m = false := hw
        rw [hF, if_neg (by rw [hw1]; decide)]
    | true =>
      obtain ⟨a, b, rfl⟩ := hfl rfl
      refine wp_eq2 (X_ppairtyB_eq (r1 := avs a.row) (r2 := avs b.row) ..) (wp_take (c_pTake m z d _) (fun hw => ?_) (fun hw => wp_out ⟨rfl, rq_ok (a := .pair a b) (l := m) ?_ hgm ?_⟩))
      · have hw1 : isW wStar m = true := hw
        have hl2 := isW_len hw1
        rw [if_pos hw1] at hF
        refine wp_ty (I2.aty hgm.tail hd (by omega) (by omega)) (fun u r2 hF2 hg2 => ?_) (fun e p r2 hF2 he => wp_out ⟨rfl, rq_no (by rw [hF, hF2]; rfl) he⟩)
        have hl3 := (lenT z k).aty hF2
        refine wp_done ⟨(k, true, .pair (.pair a b) u, r2), ⟨⟨by rw [hF, hF2]; rfl, by simp only; omega, by simp only; omega, hg2, fun _ => ⟨_, u, rfl⟩⟩, by simp only; omega⟩, ?_⟩
        simp only [tCells]
        rw [tyQ_pair]; rfl
      · have hw1 : isW wStar m = false := hw
        rw [hF, if_neg (by rw [hw1]; decide)]
      · rfl
  · -- aty
    intro l d hg hd hn hB
    generalize hX : pAty z (n + 1) l = X
    rw [pAty] at hX
    refine rc_of (wp_eq2 (X_paty_eq ..) ?_)
    have hY : X_paty (tks l) z d = Y_paty (tks l) z d := by delta X_paty Y_paty; rfl
    refine wp_eq2 hY (loop5 (fun i : Nat => ⟨tm2 35 [(0, (.ptr 0 0)), (2, (.lp 2 0 0)), (6, (.slice 1 [[(vS ((⟨#[105, 110, 116]⟩ : ByteArray)))], [(vS ((⟨#[98, 111, 111, 108]⟩ : ByteArray)))], [(vS ((⟨#[117, 110, 105, 116]⟩ : ByteArray)))]] .full)), (7, (vI 3)), (8, (vI (i)))], lm2 35 [(2, (0, [(vI (0)), (vS ((⟨#[]⟩ : ByteArray))), (.slice 0 [] .full), (.slice 0 [] .full)]))], ⟨[hp5 (tks l) z 0 0 d], [], .none, 1⟩⟩)
      (fun i => i ≤ 3 ∧ (1 ≤ i → isW wInt l = false) ∧ (2 ≤ i → isW wBool l = false) ∧ (3 ≤ i → isW wUnit l = false)) (fun i => 3 - i) 0 (by kernel_rfl) ⟨by omega, by omega, by omega, by omega⟩ ?_)
    rintro i ⟨hi, q1, q2, q3⟩
    refine wp_eq2 (X_patyR_eq ..) (wp_if2 (fun h => ?_) (fun h => ?_))
    · have h := of_decide_eq_true h
      rw [kw_succ (by omega)]
      have hi3 : i = 0 ∨ i = 1 ∨ i = 2 := by omega
      rcases hi3 with rfl | rfl | rfl
      · refine ⟨⟨#[105, 110, 116]⟩, ⟨by decide, rfl⟩, wp_take (c_pTake l z d _) (fun hw => wp_out ⟨rfl, rq_ok (a := .con [wInt]) (l := l.tail) ?_ hg.tail ?_⟩) (fun hw => wp_done ⟨1, ⟨⟨by omega, fun _ => hw, by omega, by omega⟩, by omega⟩, rfl⟩)⟩
        · have hw1 : isW wInt l = true := hw
          rw [← hX, if_pos hw1]
        · rfl
      · refine ⟨⟨#[98, 111, 111, 108]⟩, ⟨by decide, rfl⟩, wp_take (c_pTake l z d _) (fun hw => wp_out ⟨rfl, rq_ok (a := .con [wBool]) (l := l.tail) ?_ hg.tail ?_⟩) (fun hw => wp_done ⟨2, ⟨⟨by omega, fun _ => q1 (by omega), fun _ => hw, by omega⟩, by omega⟩, rfl⟩)⟩
        · have hw1 : isW wBool l = true := hw
          rw [← hX, if_neg (by rw [q1 (by omega)]; decide), if_pos hw1]
        · rfl
      · refine ⟨⟨#[117, 110, 105, 116]⟩, ⟨by decide, rfl⟩, wp_take (c_pTake l z d _) (fun hw => wp_out ⟨rfl, rq_ok (a := .con [wUnit]) (l := l.tail) ?_ hg.tail ?_⟩) (fun hw => wp_done ⟨3, ⟨⟨by omega, fun _ => q1 (by omega), fun _ => q2 (by omega), fun _ => hw⟩, by omega⟩, rfl⟩)⟩
        · have hw1 : isW wUnit l = true := hw
          rw [← hX, if_neg (by rw [q1 (by omega)]; decide), if_neg (by rw [q2 (by omega)]; decide), if_pos hw1]
        · rfl
    · have h := of_decide_eq_false h
      rw [if_neg (by rw [q1 (by omega)]; decide), if_neg (by rw [q2 (by omega)]; decide), if_neg (by rw [q3 (by omega)]; decide)] at hX
      refine wp_out (wp_bool (c_pof l z d 5) (fun h5 => ?_) (fun h5 => ?_))
      · rw [if_pos h5] at hX
        cases l with
        | nil => cases h5
        | cons t r =>
          have hk : (t.kind == 5) = true := h5
          have hne := hg.cons.1.1 (by simpa using hk)
          have htk : taken z 5 (t :: r) = .ok t.text r := by simp only [taken, hk, if_true]
          refine wp_str (c_ptaken (k := 5) hg hd (by omega)) (fun u r2 hF hg2 => ?_) (fun e p r2 hF he => ?_)
          · rw [htk] at hF
            injection hF with e1 e2
            subst e1 e2
            have hsz : (bs t.text).size = t.text.length := by simp [bs, ByteArray.size]
            refine ⟨decide_eq_true ⟨by decide, ?_, Int.le_refl _⟩, rfl, rq_ok (a := .var (t.text.drop 1)) (l := r) ?_ hg2 ?_⟩
            · have : 0 < t.text.length := List.length_pos_iff.2 hne
              omega
            · rw [← hX]; rfl
            · have : (bs t.text).extract (Int.toNat 1) (((bs t.text).size : Int).toNat) = bs (t.text.drop 1) := by
                apply tx_inj
                rw [tx_ext, Int.toNat_natCast, hsz]
                show (t.text.drop 1).take (t.text.length - 1) = t.text.drop 1
                exact List.take_of_length_le (by simp)
              rw [this]; rfl
          · rw [htk] at hF; cases hF
      · rw [if_neg (by rw [h5]; decide)] at hX
        refine wp_take (c_pTake l z d _) (fun hw => ?_) (fun hw => ?_)
        · have hw1 : isW wOpen l = true := hw
          have hl2 := isW_len hw1
          rw [if_pos hw1] at hX
          refine wp_ty (rm_pos hd (I.Ty hg.tail (by omega) (by omega))) (fun t r hF hg1 => ?_) (fun e p r hF he => ⟨rfl, rq_no (by rw [← hX, hF]; rfl) he⟩)
          refine wp_unit (c_pNeed hg1 hd (by omega)) (fun u r2 hF2 hg2 => ⟨rfl, rq_ok (a := t) (l := r2) ?_ hg2 (tyV_eq t)⟩) (fun e p r2 hF2 he => ⟨rfl, rq_no ?_ he⟩)
          · have hF2' : need z wClose r = .ok u r2 := hF2
            rw [← hX, hF]; simp only [Res.bind, hF2']
          · have hF2' : need z wClose r = .no e p := hF2
            rw [← hX, hF]; simp only [Res.bind, hF2']
        · have hw1 : isW wOpen l = false := hw
          rw [if_neg (by rw [hw1]; decide)] at hX
          refine wp_strs (c_pPath (b := true) hg hd (by omega)) (fun p r hF hg1 => ⟨rfl, rq_ok (a := .con p) (l := r) ?_ hg1 ?_⟩) (fun e p r hF he => ⟨rfl, rq_no ?_ he⟩)
          · rw [← hX]
            simp only [Bool.not_true] at hF
            cases hp : path z true false (pl z l) [] l with
            | ok x r' => rw [hp] at hF; simp only [Res.bind] at hF ⊢; injection hF with e1 e2; rw [e1, e2]
            | no e p => rw [hp] at hF; cases hF
          · rw [← tyV_eq]; rfl
          · rw [← hX]
            simp only [Bool.not_true] at hF
            cases hp : path z true false (pl z l) [] l with
            | ok x r' => rw [hp] at hF; cases hF
            | no e' p' => rw [hp] at hF; simp only [Res.bind] at hF ⊢; injection hF with e1 e2; rw [e1, e2]
end Go.Proofs
end

section
open Go Go.Eng
namespace Go.Proofs
noncomputable def shL6 : List (Nat × KM) := [(f_tree_walker_tys, .con (some (.arg 0)) none true),
  (f_tree_walker_pats, .con (some (.arg 0)) none true),
  (f_tree_walker_exps, .con (some (.arg 0)) none true),
  (f_tree_ty, .con (some (resSh Pg f_tree_ty)) (some (y_tree_wrong, .int .i64)) false),
  (f_tree_pat, .con (some (resSh Pg f_tree_pat)) (some (y_tree_wrong, .int .i64)) false),
  (f_tree_exp, .con (some (resSh Pg f_tree_exp)) (some (y_tree_wrong, .int .i64)) false),
  (f_tree_caught, .inl true),
  (f_waferref04_tysDepth, .con (some (resSh Pg f_waferref04_tysDepth)) none false),
  (f_waferref04_patsDepth, .con (some (resSh Pg f_waferref04_patsDepth)) none false),
  (f_waferref04_expsDepth, .con (some (resSh Pg f_waferref04_expsDepth)) none false),
  (f_waferref04_decsDepth, .con (some (resSh Pg f_waferref04_decsDepth)) none false),
  (f_waferref04_consDepth, .con (some (resSh Pg f_waferref04_consDepth)) none false),
  (f_waferref04_modsDepth, .con (some (resSh Pg f_waferref04_modsDepth)) none false),
  (f_waferref04_sigsDepth, .con (some (resSh Pg f_waferref04_sigsDepth)) none false),
  (f_waferref04_specsDepth, .con (some (resSh Pg f_waferref04_specsDepth)) none false),
  (f_waferref04_ty, .con (some (resSh Pg f_waferref04_ty)) none false),
  (f_waferref04_pat, .con (some (resSh Pg f_waferref04_pat)) none false),
  (f_waferref04_exp, .con (some (resSh Pg f_waferref04_exp)) none false),
  (f_waferref04_last, .con (some (resSh Pg f_waferref04_last)) none false),
  (f_waferref04_name, .con (some (resSh Pg f_waferref04_name)) none false),
  (f_waferref04_con, .con (some (resSh Pg f_waferref04_con)) none false),
  (f_waferref04_pats, .con (some (resSh Pg f_waferref04_pats)) none false),
  (f_waferref04_exps, .con (some (resSh Pg f_waferref04_exps)) none false),
  (f_waferref04_decs, .con (some (resSh Pg f_waferref04_decs)) none false),
  (f_waferref04_tys, .con (some (resSh Pg f_waferref04_tys)) none false),
  (f_waferref04_dec, .con (some (resSh Pg f_waferref04_dec)) none false),
  (f_waferref04_cons, .con (some (resSh Pg f_waferref04_cons)) none false),
  (f_waferref04_mods, .con (some (resSh Pg f_waferref04_mods)) none false),
  (f_waferref04_mod, .con (some (resSh Pg f_waferref04_mod)) none false),
  (f_waferref04_sigs, .con (some (resSh Pg f_waferref04_sigs)) none false),
  (f_waferref04_sig, .con (some (resSh Pg f_waferref04_sig)) none false),
  (f_waferref04_spec, .con (some (resSh Pg f_waferref04_spec)) none false),
  (f_waferref04_texts, .con (some (resSh Pg f_waferref04_texts)) none false),
  (f_waferref04_tysSame, .con (some (resSh Pg f_waferref04_tysSame)) none false),
  (f_waferref04_patsSame, .con (some (resSh Pg f_waferref04_patsSame)) none false),
  (f_waferref04_expsSame, .con (some (resSh Pg f_waferref04_expsSame)) none false),
  (f_waferref04_decsSame, .con (some (resSh Pg f_waferref04_decsSame)) none false),
  (f_waferref04_consSame, .con (some (resSh Pg f_waferref04_consSame)) none false),
  (f_waferref04_modsSame, .con (some (resSh Pg f_waferref04_modsSame)) none false),
  (f_waferref04_sigsSame, .con (some (resSh Pg f_waferref04_sigsSame)) none false),
  (f_waferref04_specsSame, .con (some (resSh Pg f_waferref04_specsSame)) none false),
  (f_waferref02_Reserved, .con (some (resSh Pg f_waferref02_Reserved)) none false),
  (f_waferref02_low, .con (some (resSh Pg f_waferref02_low)) none false),
  (f_waferref02_high, .con (some (resSh Pg f_waferref02_high)) none false),
  (f_waferref02_digit, .con (some (resSh Pg f_waferref02_digit)) none false),
  (f_waferref02_Right, .con (some (resSh Pg f_waferref02_Right)) none false),
  (f_waferref02_Upper, .con (some (resSh Pg f_waferref02_Upper)) none false),
  (f_waferref02_Tyvar, .con (some (resSh Pg f_waferref02_Tyvar)) none false),
  (f_waferref02_Path, .con (some (resSh Pg f_waferref02_Path)) none false),
  (f_waferref02_Has, .con (some (resSh Pg f_waferref02_Has)) none false)]
noncomputable def sh6 : FuncId → KM := fun f => match shL6.lookup f with
  | some k => k
  | none => .inl false
@[irreducible] noncomputable def kc6 : KC := kcalls Pg cfg0 rs0 sh6 12
@[irreducible] noncomputable def kt6 (f : FuncId) (args : List AV) (H : Heap) : KT := ktree Pg cfg0 rs0 sh6 12 false f args .none H
@[irreducible] noncomputable def ktc6 (f : FuncId) (args : List AV) (H : Heap) : KT := ktree Pg cfg0 rs0 sh6 12 true f args .none H
theorem hkc6 {QD : List (St → Prop)} {QR : CRes → Prop} : KCS Pg cfg0 evp QD QR kc6 := by
  delta kc6
  exact kcalls_sound (ev_byCode hx0) 12 _
theorem kt6_ev {f : FuncId} {args : List AV} {H : Heap} {r : CRes} (h : (kt6 f args H).wp Pg cfg0 evp [] (fun x => x = r)) : evp f args .none H = some r := by
  delta kt6 at h
  obtain ⟨x, h1, rfl⟩ := ktree_sound (ev_byCode hx0) h
  exact h1
theorem ktc6_ev {f : FuncId} {args : List AV} {H : Heap} {r : CRes} (h : (ktc6 f args H).wp Pg cfg0 evp [] (fun x => x = r)) : evp f args .none H = some r := by
  delta ktc6 at h
  obtain ⟨x, h1, rfl⟩ := ktree_sound (ev_byCode hx0) h
  exact h1
theorem loop6 {σ : Type} {t : KT} {QD : List (St → Prop)} {QR : CRes → Prop} (S : σ → St) (Inv : σ → Prop) (m : σ → Nat) (a0 : σ) (h0 : t.atLoop = some (S a0)) (hi : Inv a0)
    (hr : ∀ a, Inv a → (t.round Pg cfg0 rs0 kc6 (S a)).wp Pg cfg0 evp ((fun s => ∃ a', (Inv a' ∧ m a' < m a) ∧ s = S a') :: QD) QR) : t.wp Pg cfg0 evp QD QR :=
  kt_loop (rs := rs0) (kc := kc6) S Inv m a0 (fun _ => hkc6) h0 hi hr
end Go.Proofs
end

section
/- TREES, printed by kt.py out of y8.txt -/
open Go Go.Eng
namespace Go.Proofs
set_option linter.unusedVariables false
set_option maxRecDepth 100000
@[irreducible] noncomputable def Y_rtexts (p q : List (List AV)) : KT := (kt6 f_waferref04_texts [.slice 1 p .no, .slice 1 q .no] []).F
@[irreducible] noncomputable def Y_rtysSame (p q : List (List AV)) : KT := (kt6 f_waferref04_tysSame [.slice 4 p .no, .slice 4 q .no] []).F
@[irreducible] noncomputable def Y_rtysSamef (p q : List (List AV)) : KT := (kt6 f_waferref04_tysSame [.slice 4 p .full, .slice 4 q .full] []).F
@[irreducible] noncomputable def Y_rtysDepth (p : List (List AV)) : KT := (kt6 f_waferref04_tysDepth [.slice 4 p .no] [])
@[irreducible] noncomputable def Y_rtysDepthf (p : List (List AV)) : KT := (kt6 f_waferref04_tysDepth [.slice 4 p .full] [])
@[irreducible] noncomputable def Y_rtys (p : List (List AV)) : KT := (kt6 f_waferref04_tys [.slice 4 p .no] [])
@[irreducible] noncomputable def Y_r2Right (s : ByteArray) : KT := (kt6 f_waferref02_Right [vS s] []).K ⟨tm2 55 [(0, (vS (s)))], lm2 55 [], ⟨[], [], .none, 0⟩⟩
@[irreducible] noncomputable def Y_r2Tyvar (s : ByteArray) : KT := (kt6 f_waferref02_Tyvar [vS s] []).K ⟨tm2 36 [(0, (vS (s)))], lm2 36 [], ⟨[], [], .none, 0⟩⟩
@[irreducible] noncomputable def Y_r2Path (p : List (List AV)) : KT := (kt6 f_waferref02_Path [.slice 1 p .no] []).F.F
theorem X_RightTy_eq (k : Int) (n : ByteArray) (p : List (List AV)) (q : List (List AV)) : ktc6 f_tree_RightTy [AV.agg [vI k, vS n, AV.slice 1 p Own.no, AV.slice 4 q Own.no]] [] =
 (.exI fun i =>
 (.exI fun i1 =>
 (.exI fun i2 =>
 (.call f_tree_walker_tys [(.ptr 0 0), (.slice 4 [[(vI (k)), (vS (n)), (.slice 1 (p) .no), (.slice 4 (q) .no)]] .full)] .none [[(vI (0)), (vI (0)), (vI (0))]] ⟨(.ret (.ptr 0 0)), .none, [[(vI (i)), (vI (i1)), (vI (i2))]]⟩
 (.branch (decide (i2 > 100))
 (.need true
 (.ret ⟨(.ret (vI (4))), .none, []⟩))
 (.alt
 (.call f_tree_ty [(.agg [(vI (k)), (vS (n)), (.slice 1 (p) .no), (.slice 4 (q) .no)])] .none [[(vI (i)), (vI (i1)), (vI (i2))], [(vI (0))]] ⟨(.ret (.tuple [])), .none, [[(vI (i)), (vI (i1)), (vI (i2))], [(vI (0))]]⟩
 (.need true
 (.branch (!true)
 (.branch (!false)
 .fail
 (.need true
 (.ret ⟨(.ret (vI (0))), .none, []⟩)))
 (.need true
 (.ret ⟨(.ret (vI (0))), .none, []⟩)))))
 (.exI fun i3 =>
 (.call f_tree_ty [(.agg [(vI (k)), (vS (n)), (.slice 1 (p) .no), (.slice 4 (q) .no)])] .none [[(vI (i)), (vI (i1)), (vI (i2))], [(vI (0))]] ⟨(.panic (.iface y_tree_wrong (vI (i3)))), .none, [[(vI (i)), (vI (i1)), (vI (i2))], [(vI (0))]]⟩
 (.need true
 (.branch (!false)
 (.branch (!true)
 (.need true
 (.ret ⟨(.panic (.iface y_tree_wrong (vI (i3)))), .none, []⟩))
 (.need true
 (.ret ⟨(.ret (vI (i3))), .none, []⟩)))
 (.need true
 (.ret ⟨(.ret (vI (0))), .none, []⟩)))))))))))) := by kernel_rfl
theorem X_rRightTy_eq (k : Int) (n : ByteArray) (p : List (List AV)) (q : List (List AV)) : kt6 f_waferref04_RightTy [AV.agg [vI k, vS n, AV.slice 1 p Own.no, AV.slice 4 q Own.no]] [] =
 (.exI fun i =>
 (.call f_waferref04_tysDepth [(.slice 4 [[(vI (k)), (vS (n)), (.slice 1 (p) .no), (.slice 4 (q) .no)]] .full)] .none [] ⟨(.ret (vI (i))), .none, []⟩
 (.branch (decide (i > 100))
 (.need true
 (.ret ⟨(.ret (vI (4))), .none, []⟩))
 (.exI fun i1 =>
 (.call f_waferref04_ty [(.agg [(vI (k)), (vS (n)), (.slice 1 (p) .no), (.slice 4 (q) .no)])] .none [] ⟨(.ret (vI (i1))), .none, []⟩
 (.need true
 (.ret ⟨(.ret (vI (i1))), .none, []⟩))))))) := by kernel_rfl
theorem X_rSameTy_eq (k : Int) (n : ByteArray) (p : List (List AV)) (q : List (List AV)) (k2 : Int) (n2 : ByteArray) (p2 : List (List AV)) (q2 : List (List AV)) : kt6 f_waferref04_SameTy [AV.agg [vI k, vS n, AV.slice 1 p Own.no, AV.slice 4 q Own.no], AV.agg [vI k2, vS n2, AV.slice 1 p2 Own.no, AV.slice 4 q2 Own.no]] [] =
 (.exB fun b =>
 (.call f_waferref04_tysSame [(.slice 4 [[(vI (k)), (vS (n)), (.slice 1 (p) .no), (.slice 4 (q) .no)]] .full), (.slice 4 [[(vI (k2)), (vS (n2)), (.slice 1 (p2) .no), (.slice 4 (q2) .no)]] .full)] .none [] ⟨(.ret (vB (b))), .none, []⟩
 (.need true
 (.ret ⟨(.ret (vB (b))), .none, []⟩)))) := by kernel_rfl
@[irreducible] noncomputable def X_rtexts (p : List (List AV)) (q : List (List AV)) : KT := kt6 f_waferref04_texts [AV.slice 1 p Own.no, AV.slice 1 q Own.no] []
theorem X_rtexts_eq (p : List (List AV)) (q : List (List AV)) : kt6 f_waferref04_texts [AV.slice 1 p Own.no, AV.slice 1 q Own.no] [] =
 (.branch ((↑p.length : Int) != (↑q.length : Int))
 (.need true
 (.ret ⟨(.ret (vB false)), .none, []⟩))
 ((X_rtexts p q).F) /- LOOP f_waferref04_texts block 0 at ⟨tm2 26 [(0, (.slice 1 (p) .no)), (1, (.slice 1 (q) .no)), (5, (vI (0)))], lm2 26 [], ⟨[], [], .none, 0⟩⟩ -/) := by kernel_rfl
-- LOOP (X_rtexts p q).F
@[irreducible] noncomputable def X_rtysSame (p : List (List AV)) (q : List (List AV)) : KT := kt6 f_waferref04_tysSame [AV.slice 4 p Own.no, AV.slice 4 q Own.no] []
theorem X_rtysSame_eq (p : List (List AV)) (q : List (List AV)) : kt6 f_waferref04_tysSame [AV.slice 4 p Own.no, AV.slice 4 q Own.no] [] =
 (.branch ((↑p.length : Int) != (↑q.length : Int))
 (.need true
 (.ret ⟨(.ret (vB false)), .none, []⟩))
 ((X_rtysSame p q).F) /- LOOP f_waferref04_tysSame block 0 at ⟨tm2 53 [(0, (.slice 4 (p) .no)), (1, (.slice 4 (q) .no)), (5, (vI (0)))], lm2 53 [], ⟨[], [], .none, 0⟩⟩ -/) := by kernel_rfl
-- LOOP (X_rtysSame p q).F
@[irreducible] noncomputable def X_rtysSamef (p : List (List AV)) (q : List (List AV)) : KT := kt6 f_waferref04_tysSame [AV.slice 4 p Own.full, AV.slice 4 q Own.full] []
theorem X_rtysSamef_eq (p : List (List AV)) (q : List (List AV)) : kt6 f_waferref04_tysSame [AV.slice 4 p Own.full, AV.slice 4 q Own.full] [] =
 (.branch ((↑p.length : Int) != (↑q.length : Int))
 (.need true
 (.ret ⟨(.ret (vB false)), .none, []⟩))
 ((X_rtysSamef p q).F) /- LOOP f_waferref04_tysSame block 0 at ⟨tm2 53 [(0, (.slice 4 (p) .full)), (1, (.slice 4 (q) .full)), (5, (vI (0)))], lm2 53 [], ⟨[], [], .none, 0⟩⟩ -/) := by kernel_rfl
-- LOOP (X_rtysSamef p q).F
@[irreducible] noncomputable def X_rtysDepth (p : List (List AV)) : KT := kt6 f_waferref04_tysDepth [AV.slice 4 p Own.no] []
theorem X_rtysDepth_eq (p : List (List AV)) : kt6 f_waferref04_tysDepth [AV.slice 4 p Own.no] [] =
 ((X_rtysDepth p)) /- LOOP f_waferref04_tysDepth block 0 at ⟨tm2 25 [(0, (.slice 4 (p) .no)), (3, (vI (0))), (4, (vI (0)))], lm2 25 [], ⟨[], [], .none, 0⟩⟩ -/ := by kernel_rfl
-- LOOP (X_rtysDepth p)
@[irreducible] noncomputable def X_rtysDepthf (p : List (List AV)) : KT := kt6 f_waferref04_tysDepth [AV.slice 4 p Own.full] []
theorem X_rtysDepthf_eq (p : List (List AV)) : kt6 f_waferref04_tysDepth [AV.slice 4 p Own.full] [] =
 ((X_rtysDepthf p)) /- LOOP f_waferref04_tysDepth block 0 at ⟨tm2 25 [(0, (.slice 4 (p) .full)), (3, (vI (0))), (4, (vI (0)))], lm2 25 [], ⟨[], [], .none, 0⟩⟩ -/ := by kernel_rfl
-- LOOP (X_rtysDepthf p)
@[irreducible] noncomputable def X_rty1 (n : ByteArray) : KT := kt6 f_waferref04_ty [AV.agg [vI 1, vS n, AV.slice 1 [] Own.no, AV.slice 4 [] Own.no]] []
theorem X_rty1_eq (n : ByteArray) : kt6 f_waferref04_ty [AV.agg [vI 1, vS n, AV.slice 1 [] Own.no, AV.slice 4 [] Own.no]] [] =
 (.branch (1 == 1)
 (.stage
 (.branch (decide ((↑([] : List (List AV)).length : Int) > 0))
 (.out (.need true
 (.ret ⟨(.ret (vI (1))), .none, []⟩)))
 (.branch (decide ((↑([] : List (List AV)).length : Int) > 0))
 (.out (.need true
 (.ret ⟨(.ret (vI (1))), .none, []⟩)))
 (.done ⟨tm2 56 [(1, (.ref [(vI (1)), (vS (n)), (.slice 1 [] .no), (.slice 4 [] .no)]))], lm2 56 [], ⟨[], [], .none, 0⟩⟩)))
 ((X_rty1 n).T.K))
 (.branch (1 == 2)
 (.stage
 (.branch (!n.toList == (⟨#[]⟩ : ByteArray).toList)
 (.out (.need true
 (.ret ⟨(.ret (vI (1))), .none, []⟩)))
 (.branch (decide ((↑([] : List (List AV)).length : Int) > 0))
 (.out (.need true
 (.ret ⟨(.ret (vI (1))), .none, []⟩)))
 (.done ⟨tm2 56 [(1, (.ref [(vI (1)), (vS (n)), (.slice 1 [] .no), (.slice 4 [] .no)]))], lm2 56 [], ⟨[], [], .none, 0⟩⟩)))
 ((X_rty1 n).F.T.K))
 (.branch (1 == 3)
 (.stage
 (.branch (!n.toList == (⟨#[]⟩ : ByteArray).toList)
 (.out (.need true
 (.ret ⟨(.ret (vI (1))), .none, []⟩)))
 (.branch (decide ((↑([] : List (List AV)).length : Int) > 0))
 (.out (.need true
 (.ret ⟨(.ret (vI (1))), .none, []⟩)))
 (.branch ((↑([] : List (List AV)).length : Int) != 2)
 (.out (.need true
 (.ret ⟨(.ret (vI (1))), .none, []⟩)))
 (.done ⟨tm2 56 [(1, (.ref [(vI (1)), (vS (n)), (.slice 1 [] .no), (.slice 4 [] .no)]))], lm2 56 [], ⟨[], [], .none, 0⟩⟩))))
 ((X_rty1 n).F.F.T.K))
 (.branch (1 == 4)
 (.stage
 (.branch (!n.toList == (⟨#[]⟩ : ByteArray).toList)
 (.out (.need true
 (.ret ⟨(.ret (vI (1))), .none, []⟩)))
 (.branch (decide ((↑([] : List (List AV)).length : Int) > 0))
 (.out (.need true
 (.ret ⟨(.ret (vI (1))), .none, []⟩)))
 (.branch ((↑([] : List (List AV)).length : Int) != 2)
 (.out (.need true
 (.ret ⟨(.ret (vI (1))), .none, []⟩)))
 (.done ⟨tm2 56 [(1, (.ref [(vI (1)), (vS (n)), (.slice 1 [] .no), (.slice 4 [] .no)]))], lm2 56 [], ⟨[], [], .none, 0⟩⟩))))
 ((X_rty1 n).F.F.F.T.K))
 (.need true
 (.ret ⟨(.ret (vI (1))), .none, []⟩)))))) := by kernel_rfl
theorem X_rty1s1_eq (n : ByteArray) : (X_rty1 n).T.K ⟨tm2 56 [(1, (.ref [(vI (1)), (vS (n)), (.slice 1 [] .no), (.slice 4 [] .no)]))], lm2 56 [], ⟨[], [], .none, 0⟩⟩ =
 (.exB fun b =>
 (.call f_waferref02_Tyvar [(vS (n))] .none [] ⟨(.ret (vB (b))), .none, []⟩
 (.branch (!b)
 (.need true
 (.ret ⟨(.ret (vI (12))), .none, []⟩))
 (.need true
 (.ret ⟨(.ret (vI (0))), .none, []⟩))))) := by kernel_rfl
@[irreducible] noncomputable def X_rty2 (p : List (List AV)) : KT := kt6 f_waferref04_ty [AV.agg [vI 2, vS (⟨#[]⟩ : ByteArray), AV.slice 1 p Own.no, AV.slice 4 [] Own.no]] []
theorem X_rty2_eq (p : List (List AV)) : kt6 f_waferref04_ty [AV.agg [vI 2, vS (⟨#[]⟩ : ByteArray), AV.slice 1 p Own.no, AV.slice 4 [] Own.no]] [] =
 (.branch (2 == 1)
 (.stage
 (.branch (decide ((↑p.length : Int) > 0))
 (.out (.need true
 (.ret ⟨(.ret (vI (1))), .none, []⟩)))
 (.branch (decide ((↑([] : List (List AV)).length : Int) > 0))
 (.out (.need true
 (.ret ⟨(.ret (vI (1))), .none, []⟩)))
 (.done ⟨tm2 56 [(1, (.ref [(vI (2)), (vS ((⟨#[]⟩ : ByteArray))), (.slice 1 (p) .no), (.slice 4 [] .no)]))], lm2 56 [], ⟨[], [], .none, 0⟩⟩)))
 ((X_rty2 p).T.K))
 (.branch (2 == 2)
 (.stage
 (.branch (!(⟨#[]⟩ : ByteArray).toList == (⟨#[]⟩ : ByteArray).toList)
 (.out (.need true
 (.ret ⟨(.ret (vI (1))), .none, []⟩)))
 (.branch (decide ((↑([] : List (List AV)).length : Int) > 0))
 (.out (.need true
 (.ret ⟨(.ret (vI (1))), .none, []⟩)))
 (.done ⟨tm2 56 [(1, (.ref [(vI (2)), (vS ((⟨#[]⟩ : ByteArray))), (.slice 1 (p) .no), (.slice 4 [] .no)]))], lm2 56 [], ⟨[], [], .none, 0⟩⟩)))
 ((X_rty2 p).F.T.K))
 (.branch (2 == 3)
 (.stage
 (.branch (!(⟨#[]⟩ : ByteArray).toList == (⟨#[]⟩ : ByteArray).toList)
 (.out (.need true
 (.ret ⟨(.ret (vI (1))), .none, []⟩)))
 (.branch (decide ((↑p.length : Int) > 0))
 (.out (.need true
 (.ret ⟨(.ret (vI (1))), .none, []⟩)))
 (.branch ((↑([] : List (List AV)).length : Int) != 2)
 (.out (.need true
 (.ret ⟨(.ret (vI (1))), .none, []⟩)))
 (.done ⟨tm2 56 [(1, (.ref [(vI (2)), (vS ((⟨#[]⟩ : ByteArray))), (.slice 1 (p) .no), (.slice 4 [] .no)]))], lm2 56 [], ⟨[], [], .none, 0⟩⟩))))
 ((X_rty2 p).F.F.T.K))
 (.branch (2 == 4)
 (.stage
 (.branch (!(⟨#[]⟩ : ByteArray).toList == (⟨#[]⟩ : ByteArray).toList)
 (.out (.need true
 (.ret ⟨(.ret (vI (1))), .none, []⟩)))
 (.branch (decide ((↑p.length : Int) > 0))
 (.out (.need true
 (.ret ⟨(.ret (vI (1))), .none, []⟩)))
 (.branch ((↑([] : List (List AV)).length : Int) != 2)
 (.out (.need true
 (.ret ⟨(.ret (vI (1))), .none, []⟩)))
 (.done ⟨tm2 56 [(1, (.ref [(vI (2)), (vS ((⟨#[]⟩ : ByteArray))), (.slice 1 (p) .no), (.slice 4 [] .no)]))], lm2 56 [], ⟨[], [], .none, 0⟩⟩))))
 ((X_rty2 p).F.F.F.T.K))
 (.need true
 (.ret ⟨(.ret (vI (1))), .none, []⟩)))))) := by kernel_rfl
theorem X_rty2s2_eq (p : List (List AV)) : (X_rty2 p).F.T.K ⟨tm2 56 [(1, (.ref [(vI (2)), (vS ((⟨#[]⟩ : ByteArray))), (.slice 1 (p) .no), (.slice 4 [] .no)]))], lm2 56 [], ⟨[], [], .none, 0⟩⟩ =
 (.exI fun i =>
 (.call f_waferref04_con [(.slice 1 (p) .no)] .none [] ⟨(.ret (vI (i))), .none, []⟩
 (.need true
 (.ret ⟨(.ret (vI (i))), .none, []⟩)))) := by kernel_rfl
@[irreducible] noncomputable def X_rty3 (r1 : List AV) (r2 : List AV) : KT := kt6 f_waferref04_ty [AV.agg [vI 3, vS (⟨#[]⟩ : ByteArray), AV.slice 1 [] Own.no, AV.slice 4 [r1, r2] Own.no]] []
theorem X_rty3_eq (r1 : List AV) (r2 : List AV) : kt6 f_waferref04_ty [AV.agg [vI 3, vS (⟨#[]⟩ : ByteArray), AV.slice 1 [] Own.no, AV.slice 4 [r1, r2] Own.no]] [] =
 (.branch (3 == 1)
 (.stage
 (.branch (decide ((↑([] : List (List AV)).length : Int) > 0))
 (.out (.need true
 (.ret ⟨(.ret (vI (1))), .none, []⟩)))
 (.branch (decide ((↑[r1, r2].length : Int) > 0))
 (.out (.need true
 (.ret ⟨(.ret (vI (1))), .none, []⟩)))
 (.done ⟨tm2 56 [(1, (.ref [(vI (3)), (vS ((⟨#[]⟩ : ByteArray))), (.slice 1 [] .no), (.slice 4 [(r1), (r2)] .no)]))], lm2 56 [], ⟨[], [], .none, 0⟩⟩)))
 ((X_rty3 r1 r2).T.K))
 (.branch (3 == 2)
 (.stage
 (.branch (!(⟨#[]⟩ : ByteArray).toList == (⟨#[]⟩ : ByteArray).toList)
 (.out (.need true
 (.ret ⟨(.ret (vI (1))), .none, []⟩)))
 (.branch (decide ((↑[r1, r2].length : Int) > 0))
 (.out (.need true
 (.ret ⟨(.ret (vI (1))), .none, []⟩)))
 (.done ⟨tm2 56 [(1, (.ref [(vI (3)), (vS ((⟨#[]⟩ : ByteArray))), (.slice 1 [] .no), (.slice 4 [(r1), (r2)] .no)]))], lm2 56 [], ⟨[], [], .none, 0⟩⟩)))
 ((X_rty3 r1 r2).F.T.K))
 (.branch (3 == 3)
 (.stage
 (.branch (!(⟨#[]⟩ : ByteArray).toList == (⟨#[]⟩ : ByteArray).toList)
 (.out (.need true
 (.ret ⟨(.ret (vI (1))), .none, []⟩)))
 (.branch (decide ((↑([] : List (List AV)).length : Int) > 0))
 (.out (.need true
 (.ret ⟨(.ret (vI (1))), .none, []⟩)))
 (.branch ((↑[r1, r2].length : Int) != 2)
 (.out (.need true
 (.ret ⟨(.ret (vI (1))), .none, []⟩)))
 (.done ⟨tm2 56 [(1, (.ref [(vI (3)), (vS ((⟨#[]⟩ : ByteArray))), (.slice 1 [] .no), (.slice 4 [(r1), (r2)] .no)]))], lm2 56 [], ⟨[], [], .none, 0⟩⟩))))
 ((X_rty3 r1 r2).F.F.T.K))
 (.branch (3 == 4)
 (.stage
 (.branch (!(⟨#[]⟩ : ByteArray).toList == (⟨#[]⟩ : ByteArray).toList)
 (.out (.need true
 (.ret ⟨(.ret (vI (1))), .none, []⟩)))
 (.branch (decide ((↑([] : List (List AV)).length : Int) > 0))
 (.out (.need true
 (.ret ⟨(.ret (vI (1))), .none, []⟩)))
 (.branch ((↑[r1, r2].length : Int) != 2)
 (.out (.need true
 (.ret ⟨(.ret (vI (1))), .none, []⟩)))
 (.done ⟨tm2 56 [(1, (.ref [(vI (3)), (vS ((⟨#[]⟩ : ByteArray))), (.slice 1 [] .no), (.slice 4 [(r1), (r2)] .no)]))], lm2 56 [], ⟨[], [], .none, 0⟩⟩))))
 ((X_rty3 r1 r2).F.F.F.T.K))
 (.need true
 (.ret ⟨(.ret (vI (1))), .none, []⟩)))))) := by kernel_rfl
theorem X_rty3s3_eq (r1 : List AV) (r2 : List AV) : (X_rty3 r1 r2).F.F.T.K ⟨tm2 56 [(1, (.ref [(vI (3)), (vS ((⟨#[]⟩ : ByteArray))), (.slice 1 [] .no), (.slice 4 [(r1), (r2)] .no)]))], lm2 56 [], ⟨[], [], .none, 0⟩⟩ =
 (.exI fun i =>
 (.call f_waferref04_tys [(.slice 4 [(r1), (r2)] .no)] .none [] ⟨(.ret (vI (i))), .none, []⟩
 (.need true
 (.ret ⟨(.ret (vI (i))), .none, []⟩)))) := by kernel_rfl
@[irreducible] noncomputable def X_rty4 (r1 : List AV) (r2 : List AV) : KT := kt6 f_waferref04_ty [AV.agg [vI 4, vS (⟨#[]⟩ : ByteArray), AV.slice 1 [] Own.no, AV.slice 4 [r1, r2] Own.no]] []
theorem X_rty4_eq (r1 : List AV) (r2 : List AV) : kt6 f_waferref04_ty [AV.agg [vI 4, vS (⟨#[]⟩ : ByteArray), AV.slice 1 [] Own.no, AV.slice 4 [r1, r2] Own.no]] [] =
 (.branch (4 == 1)
 (.stage
 (.branch (decide ((↑([] : List (List AV)).length : Int) > 0))
 (.out (.need true
 (.ret ⟨(.ret (vI (1))), .none, []⟩)))
 (.branch (decide ((↑[r1, r2].length : Int) > 0))
 (.out (.need true
 (.ret ⟨(.ret (vI (1))), .none, []⟩)))
 (.done ⟨tm2 56 [(1, (.ref [(vI (4)), (vS ((⟨#[]⟩ : ByteArray))), (.slice 1 [] .no), (.slice 4 [(r1), (r2)] .no)]))], lm2 56 [], ⟨[], [], .none, 0⟩⟩)))
 ((X_rty4 r1 r2).T.K))
 (.branch (4 == 2)
 (.stage
 (.branch (!(⟨#[]⟩ : ByteArray).toList == (⟨#[]⟩ : ByteArray).toList)
 (.out (.need true
 (.ret ⟨(.ret (vI (1))), .none, []⟩)))
 (.branch (decide ((↑[r1, r2].length : Int) > 0))
 (.out (.need true
 (.ret ⟨(.ret (vI (1))), .none, []⟩)))
 (.done ⟨tm2 56 [(1, (.ref [(vI (4)), (vS ((⟨#[]⟩ : ByteArray))), (.slice 1 [] .no), (.slice 4 [(r1), (r2)] .no)]))], lm2 56 [], ⟨[], [], .none, 0⟩⟩)))
 ((X_rty4 r1 r2).F.T.K))
 (.branch (4 == 3)
 (.stage
 (.branch (!(⟨#[]⟩ : ByteArray).toList == (⟨#[]⟩ : ByteArray).toList)
 (.out (.need true
 (.ret ⟨(.ret (vI (1))), .none, []⟩)))
 (.branch (decide ((↑([] : List (List AV)).length : Int) > 0))
 (.out (.need true
 (.ret ⟨(.ret (vI (1))), .none, []⟩)))
 (.branch ((↑[r1, r2].length : Int) != 2)
 (.out (.need true
 (.ret ⟨(.ret (vI (1))), .none, []⟩)))
 (.done ⟨tm2 56 [(1, (.ref [(vI (4)), (vS ((⟨#[]⟩ : ByteArray))), (.slice 1 [] .no), (.slice 4 [(r1), (r2)] .no)]))], lm2 56 [], ⟨[], [], .none, 0⟩⟩))))
 ((X_rty4 r1 r2).F.F.T.K))
 (.branch (4 == 4)
 (.stage
 (.branch (!(⟨#[]⟩ : ByteArray).toList == (⟨#[]⟩ : ByteArray).toList)
 (.out (.need true
 (.ret ⟨(.ret (vI (1))), .none, []⟩)))
 (.branch (decide ((↑([] : List (List AV)).length : Int) > 0))
 (.out (.need true
 (.ret ⟨(.ret (vI (1))), .none, []⟩)))
 (.branch ((↑[r1, r2].length : Int) != 2)
 (.out (.need true
 (.ret ⟨(.ret (vI (1))), .none, []⟩)))
 (.done ⟨tm2 56 [(1, (.ref [(vI (4)), (vS ((⟨#[]⟩ : ByteArray))), (.slice 1 [] .no), (.slice 4 [(r1), (r2)] .no)]))], lm2 56 [], ⟨[], [], .none, 0⟩⟩))))
 ((X_rty4 r1 r2).F.F.F.T.K))
 (.need true
 (.ret ⟨(.ret (vI (1))), .none, []⟩)))))) := by kernel_rfl
theorem X_rty4s4_eq (r1 : List AV) (r2 : List AV) : (X_rty4 r1 r2).F.F.F.T.K ⟨tm2 56 [(1, (.ref [(vI (4)), (vS ((⟨#[]⟩ : ByteArray))), (.slice 1 [] .no), (.slice 4 [(r1), (r2)] .no)]))], lm2 56 [], ⟨[], [], .none, 0⟩⟩ =
 (.exI fun i =>
 (.call f_waferref04_tys [(.slice 4 [(r1), (r2)] .no)] .none [] ⟨(.ret (vI (i))), .none, []⟩
 (.need true
 (.ret ⟨(.ret (vI (i))), .none, []⟩)))) := by kernel_rfl
@[irreducible] noncomputable def X_rtys (p : List (List AV)) : KT := kt6 f_waferref04_tys [AV.slice 4 p Own.no] []
theorem X_rtys_eq (p : List (List AV)) : kt6 f_waferref04_tys [AV.slice 4 p Own.no] [] =
 ((X_rtys p)) /- LOOP f_waferref04_tys block 0 at ⟨tm2 19 [(0, (.slice 4 (p) .no)), (3, (vI (0)))], lm2 19 [], ⟨[], [], .none, 0⟩⟩ -/ := by kernel_rfl
-- LOOP (X_rtys p)
theorem X_rconp_eq (p : List (List AV)) : kt6 f_waferref04_con [AV.slice 1 p Own.no] [] =
 (.branch ((↑p.length : Int) == 1)
 (.exS fun s =>
 (.row (p) (0) [(vS (s))]
 (.branch (s.toList == (⟨#[105, 110, 116]⟩ : ByteArray).toList)
 (.need true
 (.ret ⟨(.ret (vI (0))), .none, []⟩))
 (.exS fun s1 =>
 (.row (p) (0) [(vS (s1))]
 (.branch (s1.toList == (⟨#[98, 111, 111, 108]⟩ : ByteArray).toList)
 (.need true
 (.ret ⟨(.ret (vI (0))), .none, []⟩))
 (.exS fun s2 =>
 (.row (p) (0) [(vS (s2))]
 (.branch (s2.toList == (⟨#[117, 110, 105, 116]⟩ : ByteArray).toList)
 (.need true
 (.ret ⟨(.ret (vI (0))), .none, []⟩))
 (.exI fun i =>
 (.call f_waferref04_last [(.slice 1 (p) .no), (vB false)] .none [] ⟨(.ret (vI (i))), .none, []⟩
 (.need true
 (.ret ⟨(.ret (vI (i))), .none, []⟩)))))))))))))
 (.exI fun i =>
 (.call f_waferref04_last [(.slice 1 (p) .no), (vB false)] .none [] ⟨(.ret (vI (i))), .none, []⟩
 (.need true
 (.ret ⟨(.ret (vI (i))), .none, []⟩))))) := by kernel_rfl
theorem X_rlast_eq (p : List (List AV)) (b : Bool) : kt6 f_waferref04_last [AV.slice 1 p Own.no, vB b] [] =
 (.exI fun i =>
 (.call f_waferref02_Path [(.slice 1 (p) .no)] .none [] ⟨(.ret (vI (i))), .none, []⟩
 (.branch (i != 0)
 (.need true
 (.ret ⟨(.ret (vI (i))), .none, []⟩))
 (.exS fun s =>
 (.row (p) (IntKind.i64.wrap ((↑p.length : Int) - 1)) [(vS (s))]
 (.exI fun i1 =>
 (.call f_waferref04_name [(vS (s)), (vB (b))] .none [] ⟨(.ret (vI (i1))), .none, []⟩
 (.need true
 (.ret ⟨(.ret (vI (i1))), .none, []⟩))))))))) := by kernel_rfl
theorem X_rnameb_eq (s : ByteArray) (b : Bool) : kt6 f_waferref04_name [vS s, vB b] [] =
 (.exI fun i =>
 (.call f_waferref02_Right [(vS (s))] .none [] ⟨(.ret (vI (i))), .none, []⟩
 (.branch (i != 0)
 (.need true
 (.ret ⟨(.ret (vI (i))), .none, []⟩))
 (.exB fun b1 =>
 (.call f_waferref02_Upper [(vS (s))] .none [] ⟨(.ret (vB (b1))), .none, []⟩
 (.branch (!b == b1)
 (.need true
 (.ret ⟨(.ret (vI (12))), .none, []⟩))
 (.need true
 (.ret ⟨(.ret (vI (0))), .none, []⟩)))))))) := by kernel_rfl
theorem X_r2low_eq (c : UInt8) : kt6 f_waferref02_low [AV.val (Value.int IntKind.u8 (↑c.toNat : Int))] [] =
 (.branch (decide ((↑c.toNat : Int) ≥ 97))
 (.need true
 (.ret ⟨(.ret (vB (decide ((↑c.toNat : Int) ≤ 122)))), .none, []⟩))
 (.need true
 (.ret ⟨(.ret (vB false)), .none, []⟩))) := by kernel_rfl
theorem X_r2high_eq (c : UInt8) : kt6 f_waferref02_high [AV.val (Value.int IntKind.u8 (↑c.toNat : Int))] [] =
 (.branch (decide ((↑c.toNat : Int) ≥ 65))
 (.need true
 (.ret ⟨(.ret (vB (decide ((↑c.toNat : Int) ≤ 90)))), .none, []⟩))
 (.need true
 (.ret ⟨(.ret (vB false)), .none, []⟩))) := by kernel_rfl
theorem X_r2digit_eq (c : UInt8) : kt6 f_waferref02_digit [AV.val (Value.int IntKind.u8 (↑c.toNat : Int))] [] =
 (.branch (decide ((↑c.toNat : Int) ≥ 48))
 (.need true
 (.ret ⟨(.ret (vB (decide ((↑c.toNat : Int) ≤ 57)))), .none, []⟩))
 (.need true
 (.ret ⟨(.ret (vB false)), .none, []⟩))) := by kernel_rfl
@[irreducible] noncomputable def X_r2Right (s : ByteArray) : KT := kt6 f_waferref02_Right [vS s] []
theorem X_r2Right_eq (s : ByteArray) : kt6 f_waferref02_Right [vS s] [] =
 (.stage
 (.branch ((↑s.size : Int) == 0)
 (.out (.need true
 (.ret ⟨(.ret (vI (12))), .none, []⟩)))
 (.exY fun y =>
 (.byte (s) (0) (y)
 (.exB fun b =>
 (.call f_waferref02_low [(.val (.int .u8 ((↑y.toNat : Int))))] .none [] ⟨(.ret (vB (b))), .none, []⟩
 (.branch (!b)
 (.exY fun y1 =>
 (.byte (s) (0) (y1)
 (.exB fun b1 =>
 (.call f_waferref02_high [(.val (.int .u8 ((↑y1.toNat : Int))))] .none [] ⟨(.ret (vB (b1))), .none, []⟩
 (.branch (!b1)
 (.out (.need true
 (.ret ⟨(.ret (vI (12))), .none, []⟩)))
 (.done ⟨tm2 55 [(0, (vS (s)))], lm2 55 [], ⟨[], [], .none, 0⟩⟩))))))
 (.done ⟨tm2 55 [(0, (vS (s)))], lm2 55 [], ⟨[], [], .none, 0⟩⟩)))))))
 ((X_r2Right s).K)) := by kernel_rfl
theorem X_r2Upper_eq (s : ByteArray) : kt6 f_waferref02_Upper [vS s] [] =
 (.exI fun i =>
 (.call f_waferref02_Right [(vS (s))] .none [] ⟨(.ret (vI (i))), .none, []⟩
 (.branch (i == 0)
 (.exY fun y =>
 (.byte (s) (0) (y)
 (.exB fun b =>
 (.call f_waferref02_high [(.val (.int .u8 ((↑y.toNat : Int))))] .none [] ⟨(.ret (vB (b))), .none, []⟩
 (.need true
 (.ret ⟨(.ret (vB (b))), .none, []⟩))))))
 (.need true
 (.ret ⟨(.ret (vB false)), .none, []⟩))))) := by kernel_rfl
@[irreducible] noncomputable def X_r2Tyvar (s : ByteArray) : KT := kt6 f_waferref02_Tyvar [vS s] []
theorem X_r2Tyvar_eq (s : ByteArray) : kt6 f_waferref02_Tyvar [vS s] [] =
 (.stage
 (.branch ((↑s.size : Int) == 0)
 (.out (.need true
 (.ret ⟨(.ret (vB false)), .none, []⟩)))
 (.branch (decide ((↑s.size : Int) ≥ 32))
 (.out (.need true
 (.ret ⟨(.ret (vB false)), .none, []⟩)))
 (.exY fun y =>
 (.byte (s) (0) (y)
 (.exB fun b =>
 (.call f_waferref02_low [(.val (.int .u8 ((↑y.toNat : Int))))] .none [] ⟨(.ret (vB (b))), .none, []⟩
 (.branch (!b)
 (.out (.need true
 (.ret ⟨(.ret (vB false)), .none, []⟩)))
 (.done ⟨tm2 36 [(0, (vS (s)))], lm2 36 [], ⟨[], [], .none, 0⟩⟩))))))))
 ((X_r2Tyvar s).K)) := by kernel_rfl
@[irreducible] noncomputable def X_r2Path (p : List (List AV)) : KT := kt6 f_waferref02_Path [AV.slice 1 p Own.no] []
theorem X_r2Path_eq (p : List (List AV)) : kt6 f_waferref02_Path [AV.slice 1 p Own.no] [] =
 (.branch ((↑p.length : Int) == 0)
 (.need true
 (.ret ⟨(.ret (vI (1))), .none, []⟩))
 (.branch (decide ((↑p.length : Int) > 8))
 (.need true
 (.ret ⟨(.ret (vI (3))), .none, []⟩))
 ((X_r2Path p).F.F) /- LOOP f_waferref02_Path block 0 at ⟨tm2 38 [(0, (.slice 1 (p) .no)), (3, (vI (0)))], lm2 38 [], ⟨[], [], .none, 0⟩⟩ -/)) := by kernel_rfl
-- LOOP (X_r2Path p).F.F
theorem X_rtextsR_eq (p : List (List AV)) (q : List (List AV)) (i : Nat) : KT.round Pg cfg0 rs0 kc6 (Y_rtexts p q) { tmps := tm2 26 [(0, AV.slice 1 p Own.no), (1, AV.slice 1 q Own.no), (5, vI (↑i : Int))], lh := lm2 26 [], g := { H := [], defers := [], rm := RM.none, base := 0 } } =
 (.branch (decide ((↑i : Int) < (↑p.length : Int)))
 (.exS fun s =>
 (.row (p) ((↑i : Int)) [(vS (s))]
 (.exS fun s1 =>
 (.row (q) ((↑i : Int)) [(vS (s1))]
 (.branch (!s.toList == s1.toList)
 (.out (.need true
 (.ret ⟨(.ret (vB false)), .none, []⟩)))
 (.done ⟨tm2 26 [(0, (.slice 1 (p) .no)), (1, (.slice 1 (q) .no)), (5, (vI (IntKind.i64.wrap ((↑i : Int) + 1))))], lm2 26 [], ⟨[], [], .none, 0⟩⟩))))))
 (.out (.need true
 (.ret ⟨(.ret (vB true)), .none, []⟩)))) := by kernel_rfl
@[irreducible] noncomputable def X_rtysSameR (p : List (List AV)) (q : List (List AV)) (i : Nat) : KT := KT.round Pg cfg0 rs0 kc6 (Y_rtysSame p q) { tmps := tm2 53 [(0, AV.slice 4 p Own.no), (1, AV.slice 4 q Own.no), (5, vI (↑i : Int))], lh := lm2 53 [], g := { H := [], defers := [], rm := RM.none, base := 0 } }
theorem X_rtysSameR_eq (p : List (List AV)) (q : List (List AV)) (i : Nat) : KT.round Pg cfg0 rs0 kc6 (Y_rtysSame p q) { tmps := tm2 53 [(0, AV.slice 4 p Own.no), (1, AV.slice 4 q Own.no), (5, vI (↑i : Int))], lh := lm2 53 [], g := { H := [], defers := [], rm := RM.none, base := 0 } } =
 (.branch (decide ((↑i : Int) < (↑p.length : Int)))
 (.exI fun i1 =>
 (.exS fun s =>
 (.exR fun l =>
 (.exR fun l1 =>
 (.row (p) ((↑i : Int)) [(vI (i1)), (vS (s)), (.slice 1 (l) .no), (.slice 4 (l1) .no)]
 (.exI fun i2 =>
 (.exS fun s1 =>
 (.exR fun l2 =>
 (.exR fun l3 =>
 (.row (q) ((↑i : Int)) [(vI (i2)), (vS (s1)), (.slice 1 (l2) .no), (.slice 4 (l3) .no)]
 (.stage
 (.branch (i1 != i2)
 (.out (.out (.need true
 (.ret ⟨(.ret (vB false)), .none, []⟩))))
 (.branch (!s.toList == s1.toList)
 (.out (.out (.need true
 (.ret ⟨(.ret (vB false)), .none, []⟩))))
 (.exB fun b =>
 (.call f_waferref04_texts [(.slice 1 (l) .no), (.slice 1 (l2) .no)] .none [] ⟨(.ret (vB (b))), .none, []⟩
 (.branch (!b)
 (.out (.out (.need true
 (.ret ⟨(.ret (vB false)), .none, []⟩))))
 (.done ⟨tm2 53 [(0, (.slice 4 (p) .no)), (1, (.slice 4 (q) .no)), (5, (vI ((↑i : Int)))), (6, (.lp 6 0 0)), (7, (.lp 7 0 0))], lm2 53 [(6, (0, [(vI (i1)), (vS (s)), (.slice 1 (l) .no), (.slice 4 (l1) .no)])), (7, (0, [(vI (i2)), (vS (s1)), (.slice 1 (l2) .no), (.slice 4 (l3) .no)]))], ⟨[], [], .none, 0⟩⟩))))))
 ((((((((((X_rtysSameR p q i).T.I i1).S s).R l).R l1).T.I i2).S s1).R l2).R l3).T.K))))))))))))
 (.out (.need true
 (.ret ⟨(.ret (vB true)), .none, []⟩)))) := by kernel_rfl
theorem X_rtysSameRs1_eq (p : List (List AV)) (q : List (List AV)) (i : Nat) (i1 : Int) (s : ByteArray) (l : List (List AV)) (l1 : List (List AV)) (i2 : Int) (s1 : ByteArray) (l2 : List (List AV)) (l3 : List (List AV)) : (((((((((X_rtysSameR p q i).T.I i1).S s).R l).R l1).T.I i2).S s1).R l2).R l3).T.K ⟨tm2 53 [(0, (.slice 4 (p) .no)), (1, (.slice 4 (q) .no)), (5, (vI ((↑i : Int)))), (6, (.lp 6 0 0)), (7, (.lp 7 0 0))], lm2 53 [(6, (0, [(vI (i1)), (vS (s)), (.slice 1 (l) .no), (.slice 4 (l1) .no)])), (7, (0, [(vI (i2)), (vS (s1)), (.slice 1 (l2) .no), (.slice 4 (l3) .no)]))], ⟨[], [], .none, 0⟩⟩ =
 (.exB fun b =>
 (.call f_waferref04_tysSame [(.slice 4 (l1) .no), (.slice 4 (l3) .no)] .none [] ⟨(.ret (vB (b))), .none, []⟩
 (.branch (!b)
 (.out (.need true
 (.ret ⟨(.ret (vB false)), .none, []⟩)))
 (.done ⟨tm2 53 [(0, (.slice 4 (p) .no)), (1, (.slice 4 (q) .no)), (5, (vI (IntKind.i64.wrap ((↑i : Int) + 1))))], lm2 53 [], ⟨[], [], .none, 0⟩⟩)))) := by kernel_rfl
@[irreducible] noncomputable def X_rtysSamefR (p : List (List AV)) (q : List (List AV)) (i : Nat) : KT := KT.round Pg cfg0 rs0 kc6 (Y_rtysSamef p q) { tmps := tm2 53 [(0, AV.slice 4 p Own.full), (1, AV.slice 4 q Own.full), (5, vI (↑i : Int))], lh := lm2 53 [], g := { H := [], defers := [], rm := RM.none, base := 0 } }
theorem X_rtysSamefR_eq (p : List (List AV)) (q : List (List AV)) (i : Nat) : KT.round Pg cfg0 rs0 kc6 (Y_rtysSamef p q) { tmps := tm2 53 [(0, AV.slice 4 p Own.full), (1, AV.slice 4 q Own.full), (5, vI (↑i : Int))], lh := lm2 53 [], g := { H := [], defers := [], rm := RM.none, base := 0 } } =
 (.branch (decide ((↑i : Int) < (↑p.length : Int)))
 (.exI fun i1 =>
 (.exS fun s =>
 (.exR fun l =>
 (.exR fun l1 =>
 (.row (p) ((↑i : Int)) [(vI (i1)), (vS (s)), (.slice 1 (l) .no), (.slice 4 (l1) .no)]
 (.exI fun i2 =>
 (.exS fun s1 =>
 (.exR fun l2 =>
 (.exR fun l3 =>
 (.row (q) ((↑i : Int)) [(vI (i2)), (vS (s1)), (.slice 1 (l2) .no), (.slice 4 (l3) .no)]
 (.stage
 (.branch (i1 != i2)
 (.out (.out (.need true
 (.ret ⟨(.ret (vB false)), .none, []⟩))))
 (.branch (!s.toList == s1.toList)
 (.out (.out (.need true
 (.ret ⟨(.ret (vB false)), .none, []⟩))))
 (.exB fun b =>
 (.call f_waferref04_texts [(.slice 1 (l) .no), (.slice 1 (l2) .no)] .none [] ⟨(.ret (vB (b))), .none, []⟩
 (.branch (!b)
 (.out (.out (.need true
 (.ret ⟨(.ret (vB false)), .none, []⟩))))
 (.done ⟨tm2 53 [(0, (.slice 4 (p) .full)), (1, (.slice 4 (q) .full)), (5, (vI ((↑i : Int)))), (6, (.lp 6 0 0)), (7, (.lp 7 0 0))], lm2 53 [(6, (0, [(vI (i1)), (vS (s)), (.slice 1 (l) .no), (.slice 4 (l1) .no)])), (7, (0, [(vI (i2)), (vS (s1)), (.slice 1 (l2) .no), (.slice 4 (l3) .no)]))], ⟨[], [], .none, 0⟩⟩))))))
 ((((((((((X_rtysSamefR p q i).T.I i1).S s).R l).R l1).T.I i2).S s1).R l2).R l3).T.K))))))))))))
 (.out (.need true
 (.ret ⟨(.ret (vB true)), .none, []⟩)))) := by kernel_rfl
theorem X_rtysSamefRs1_eq (p : List (List AV)) (q : List (List AV)) (i : Nat) (i1 : Int) (s : ByteArray) (l : List (List AV)) (l1 : List (List AV)) (i2 : Int) (s1 : ByteArray) (l2 : List (List AV)) (l3 : List (List AV)) : (((((((((X_rtysSamefR p q i).T.I i1).S s).R l).R l1).T.I i2).S s1).R l2).R l3).T.K ⟨tm2 53 [(0, (.slice 4 (p) .full)), (1, (.slice 4 (q) .full)), (5, (vI ((↑i : Int)))), (6, (.lp 6 0 0)), (7, (.lp 7 0 0))], lm2 53 [(6, (0, [(vI (i1)), (vS (s)), (.slice 1 (l) .no), (.slice 4 (l1) .no)])), (7, (0, [(vI (i2)), (vS (s1)), (.slice 1 (l2) .no), (.slice 4 (l3) .no)]))], ⟨[], [], .none, 0⟩⟩ =
 (.exB fun b =>
 (.call f_waferref04_tysSame [(.slice 4 (l1) .no), (.slice 4 (l3) .no)] .none [] ⟨(.ret (vB (b))), .none, []⟩
 (.branch (!b)
 (.out (.need true
 (.ret ⟨(.ret (vB false)), .none, []⟩)))
 (.done ⟨tm2 53 [(0, (.slice 4 (p) .full)), (1, (.slice 4 (q) .full)), (5, (vI (IntKind.i64.wrap ((↑i : Int) + 1))))], lm2 53 [], ⟨[], [], .none, 0⟩⟩)))) := by kernel_rfl
theorem X_rtysDepthR_eq (p : List (List AV)) (m : Int) (i : Nat) : KT.round Pg cfg0 rs0 kc6 (Y_rtysDepth p) { tmps := tm2 25 [(0, AV.slice 4 p Own.no), (3, vI m), (4, vI (↑i : Int))], lh := lm2 25 [], g := { H := [], defers := [], rm := RM.none, base := 0 } } =
 (.branch (decide ((↑i : Int) < (↑p.length : Int)))
 (.exI fun i1 =>
 (.exS fun s =>
 (.exR fun l =>
 (.exR fun l1 =>
 (.row (p) ((↑i : Int)) [(vI (i1)), (vS (s)), (.slice 1 (l) .no), (.slice 4 (l1) .no)]
 (.exI fun i2 =>
 (.call f_waferref04_tysDepth [(.slice 4 (l1) .no)] .none [] ⟨(.ret (vI (i2))), .none, []⟩
 (.branch (decide (0 > i2))
 (.need true
 (.branch (decide (m > IntKind.i64.wrap (0 + 1)))
 (.need true
 (.done ⟨tm2 25 [(0, (.slice 4 (p) .no)), (3, (vI (m))), (4, (vI (IntKind.i64.wrap ((↑i : Int) + 1))))], lm2 25 [], ⟨[], [], .none, 0⟩⟩))
 (.need true
 (.done ⟨tm2 25 [(0, (.slice 4 (p) .no)), (3, (vI (IntKind.i64.wrap (0 + 1)))), (4, (vI (IntKind.i64.wrap ((↑i : Int) + 1))))], lm2 25 [], ⟨[], [], .none, 0⟩⟩))))
 (.need true
 (.branch (decide (m > IntKind.i64.wrap (i2 + 1)))
 (.need true
 (.done ⟨tm2 25 [(0, (.slice 4 (p) .no)), (3, (vI (m))), (4, (vI (IntKind.i64.wrap ((↑i : Int) + 1))))], lm2 25 [], ⟨[], [], .none, 0⟩⟩))
 (.need true
 (.done ⟨tm2 25 [(0, (.slice 4 (p) .no)), (3, (vI (IntKind.i64.wrap (i2 + 1)))), (4, (vI (IntKind.i64.wrap ((↑i : Int) + 1))))], lm2 25 [], ⟨[], [], .none, 0⟩⟩))))))))))))
 (.out (.need true
 (.ret ⟨(.ret (vI (m))), .none, []⟩)))) := by kernel_rfl
theorem X_rtysDepthfR_eq (p : List (List AV)) (m : Int) (i : Nat) : KT.round Pg cfg0 rs0 kc6 (Y_rtysDepthf p) { tmps := tm2 25 [(0, AV.slice 4 p Own.full), (3, vI m), (4, vI (↑i : Int))], lh := lm2 25 [], g := { H := [], defers := [], rm := RM.none, base := 0 } } =
 (.branch (decide ((↑i : Int) < (↑p.length : Int)))
 (.exI fun i1 =>
 (.exS fun s =>
 (.exR fun l =>
 (.exR fun l1 =>
 (.row (p) ((↑i : Int)) [(vI (i1)), (vS (s)), (.slice 1 (l) .no), (.slice 4 (l1) .no)]
 (.exI fun i2 =>
 (.call f_waferref04_tysDepth [(.slice 4 (l1) .no)] .none [] ⟨(.ret (vI (i2))), .none, []⟩
 (.branch (decide (0 > i2))
 (.need true
 (.branch (decide (m > IntKind.i64.wrap (0 + 1)))
 (.need true
 (.done ⟨tm2 25 [(0, (.slice 4 (p) .full)), (3, (vI (m))), (4, (vI (IntKind.i64.wrap ((↑i : Int) + 1))))], lm2 25 [], ⟨[], [], .none, 0⟩⟩))
 (.need true
 (.done ⟨tm2 25 [(0, (.slice 4 (p) .full)), (3, (vI (IntKind.i64.wrap (0 + 1)))), (4, (vI (IntKind.i64.wrap ((↑i : Int) + 1))))], lm2 25 [], ⟨[], [], .none, 0⟩⟩))))
 (.need true
 (.branch (decide (m > IntKind.i64.wrap (i2 + 1)))
 (.need true
 (.done ⟨tm2 25 [(0, (.slice 4 (p) .full)), (3, (vI (m))), (4, (vI (IntKind.i64.wrap ((↑i : Int) + 1))))], lm2 25 [], ⟨[], [], .none, 0⟩⟩))
 (.need true
 (.done ⟨tm2 25 [(0, (.slice 4 (p) .full)), (3, (vI (IntKind.i64.wrap (i2 + 1)))), (4, (vI (IntKind.i64.wrap ((↑i : Int) + 1))))], lm2 25 [], ⟨[], [], .none, 0⟩⟩))))))))))))
 (.out (.need true
 (.ret ⟨(.ret (vI (m))), .none, []⟩)))) := by kernel_rfl
theorem X_rtysR_eq (p : List (List AV)) (i : Nat) : KT.round Pg cfg0 rs0 kc6 (Y_rtys p) { tmps := tm2 19 [(0, AV.slice 4 p Own.no), (3, vI (↑i : Int))], lh := lm2 19 [], g := { H := [], defers := [], rm := RM.none, base := 0 } } =
 (.branch (decide ((↑i : Int) < (↑p.length : Int)))
 (.exI fun i1 =>
 (.exS fun s =>
 (.exR fun l =>
 (.exR fun l1 =>
 (.row (p) ((↑i : Int)) [(vI (i1)), (vS (s)), (.slice 1 (l) .no), (.slice 4 (l1) .no)]
 (.exI fun i2 =>
 (.call f_waferref04_ty [(.agg [(vI (i1)), (vS (s)), (.slice 1 (l) .no), (.slice 4 (l1) .no)])] .none [] ⟨(.ret (vI (i2))), .none, []⟩
 (.branch (i2 != 0)
 (.out (.need true
 (.ret ⟨(.ret (vI (i2))), .none, []⟩)))
 (.done ⟨tm2 19 [(0, (.slice 4 (p) .no)), (3, (vI (IntKind.i64.wrap ((↑i : Int) + 1))))], lm2 19 [], ⟨[], [], .none, 0⟩⟩)))))))))
 (.out (.need true
 (.ret ⟨(.ret (vI (0))), .none, []⟩)))) := by kernel_rfl
theorem X_r2RightR_eq (s : ByteArray) (i : Nat) : KT.round Pg cfg0 rs0 kc6 (Y_r2Right s) { tmps := tm2 55 [(0, vS s), (3, vI (↑i : Int))], lh := lm2 55 [], g := { H := [], defers := [], rm := RM.none, base := 0 } } =
 (.branch (decide ((↑i : Int) < (↑s.size : Int)))
 (.exY fun y =>
 (.byte (s) ((↑i : Int)) (y)
 (.exB fun b =>
 (.call f_waferref02_low [(.val (.int .u8 ((↑y.toNat : Int))))] .none [] ⟨(.ret (vB (b))), .none, []⟩
 (.branch (!b)
 (.exY fun y1 =>
 (.byte (s) ((↑i : Int)) (y1)
 (.exB fun b1 =>
 (.call f_waferref02_high [(.val (.int .u8 ((↑y1.toNat : Int))))] .none [] ⟨(.ret (vB (b1))), .none, []⟩
 (.branch (!b1)
 (.exY fun y2 =>
 (.byte (s) ((↑i : Int)) (y2)
 (.exB fun b2 =>
 (.call f_waferref02_digit [(.val (.int .u8 ((↑y2.toNat : Int))))] .none [] ⟨(.ret (vB (b2))), .none, []⟩
 (.branch (!b2)
 (.exY fun y3 =>
 (.byte (s) ((↑i : Int)) (y3)
 (.branch ((↑y3.toNat : Int) != 95)
 (.out (.need true
 (.ret ⟨(.ret (vI (12))), .none, []⟩)))
 (.done ⟨tm2 55 [(0, (vS (s))), (3, (vI (IntKind.i64.wrap ((↑i : Int) + 1))))], lm2 55 [], ⟨[], [], .none, 0⟩⟩))))
 (.done ⟨tm2 55 [(0, (vS (s))), (3, (vI (IntKind.i64.wrap ((↑i : Int) + 1))))], lm2 55 [], ⟨[], [], .none, 0⟩⟩))))))
 (.done ⟨tm2 55 [(0, (vS (s))), (3, (vI (IntKind.i64.wrap ((↑i : Int) + 1))))], lm2 55 [], ⟨[], [], .none, 0⟩⟩))))))
 (.done ⟨tm2 55 [(0, (vS (s))), (3, (vI (IntKind.i64.wrap ((↑i : Int) + 1))))], lm2 55 [], ⟨[], [], .none, 0⟩⟩))))))
 (.out (.branch (decide ((↑s.size : Int) > 32))
 (.need true
 (.ret ⟨(.ret (vI (3))), .none, []⟩))
 (.exB fun b =>
 (.call f_waferref02_Reserved [(vS (s))] .none [] ⟨(.ret (vB (b))), .none, []⟩
 (.branch (b)
 (.need true
 (.ret ⟨(.ret (vI (12))), .none, []⟩))
 (.need true
 (.ret ⟨(.ret (vI (0))), .none, []⟩)))))))) := by kernel_rfl
theorem X_r2TyvarR_eq (s : ByteArray) (i : Nat) : KT.round Pg cfg0 rs0 kc6 (Y_r2Tyvar s) { tmps := tm2 36 [(0, vS s), (3, vI (↑i : Int))], lh := lm2 36 [], g := { H := [], defers := [], rm := RM.none, base := 0 } } =
 (.branch (decide ((↑i : Int) < (↑s.size : Int)))
 (.exY fun y =>
 (.byte (s) ((↑i : Int)) (y)
 (.exB fun b =>
 (.call f_waferref02_low [(.val (.int .u8 ((↑y.toNat : Int))))] .none [] ⟨(.ret (vB (b))), .none, []⟩
 (.branch (!b)
 (.exY fun y1 =>
 (.byte (s) ((↑i : Int)) (y1)
 (.exB fun b1 =>
 (.call f_waferref02_digit [(.val (.int .u8 ((↑y1.toNat : Int))))] .none [] ⟨(.ret (vB (b1))), .none, []⟩
 (.branch (!b1)
 (.out (.need true
 (.ret ⟨(.ret (vB false)), .none, []⟩)))
 (.done ⟨tm2 36 [(0, (vS (s))), (3, (vI (IntKind.i64.wrap ((↑i : Int) + 1))))], lm2 36 [], ⟨[], [], .none, 0⟩⟩))))))
 (.done ⟨tm2 36 [(0, (vS (s))), (3, (vI (IntKind.i64.wrap ((↑i : Int) + 1))))], lm2 36 [], ⟨[], [], .none, 0⟩⟩))))))
 (.out (.need true
 (.ret ⟨(.ret (vB true)), .none, []⟩)))) := by kernel_rfl
theorem X_r2PathR_eq (p : List (List AV)) (i : Nat) : KT.round Pg cfg0 rs0 kc6 (Y_r2Path p) { tmps := tm2 38 [(0, AV.slice 1 p Own.no), (3, vI (↑i : Int))], lh := lm2 38 [], g := { H := [], defers := [], rm := RM.none, base := 0 } } =
 (.branch (decide ((↑i : Int) < (↑p.length : Int)))
 (.exS fun s =>
 (.row (p) ((↑i : Int)) [(vS (s))]
 (.exI fun i1 =>
 (.call f_waferref02_Right [(vS (s))] .none [] ⟨(.ret (vI (i1))), .none, []⟩
 (.branch (i1 != 0)
 (.out (.need true
 (.ret ⟨(.ret (vI (i1))), .none, []⟩)))
 (.branch (decide ((↑i : Int) < IntKind.i64.wrap ((↑p.length : Int) - 1)))
 (.exS fun s1 =>
 (.row (p) ((↑i : Int)) [(vS (s1))]
 (.exB fun b =>
 (.call f_waferref02_Upper [(vS (s1))] .none [] ⟨(.ret (vB (b))), .none, []⟩
 (.branch (!b)
 (.out (.need true
 (.ret ⟨(.ret (vI (12))), .none, []⟩)))
 (.done ⟨tm2 38 [(0, (.slice 1 (p) .no)), (3, (vI (IntKind.i64.wrap ((↑i : Int) + 1))))], lm2 38 [], ⟨[], [], .none, 0⟩⟩))))))
 (.done ⟨tm2 38 [(0, (.slice 1 (p) .no)), (3, (vI (IntKind.i64.wrap ((↑i : Int) + 1))))], lm2 38 [], ⟨[], [], .none, 0⟩⟩)))))))
 (.out (.need true
 (.ret ⟨(.ret (vI (0))), .none, []⟩)))) := by kernel_rfl
end Go.Proofs
end

section
/- PARSE: the document's checks of names, paths and types: an error that is never ErrDeep -/
set_option linter.unusedVariables false
set_option linter.unusedSimpArgs false
set_option maxRecDepth 100000
open Go Go.Eng Go.Pa
open Go.Lx (T Tok)
namespace Go.Proofs
/-- It answers an error, or that there is none; never ErrDeep. -/
def E4 (f : FuncId) (args : List AV) : Prop := ∃ e : Int, e ≠ 4 ∧ evp f args .none [] = some ⟨.ret (vI e), .none, []⟩
def Bl (f : FuncId) (args : List AV) : Prop := ∃ b, evp f args .none [] = some ⟨.ret (vB b), .none, []⟩
theorem kt6_ex {f : FuncId} {args : List AV} {H : Heap} {Q : CRes → Prop} (h : (kt6 f args H).wp Pg cfg0 evp [] Q) : ∃ r, evp f args .none H = some r ∧ Q r := by
  delta kt6 at h
  exact ktree_sound (ev_byCode hx0) h
theorem kt6_e {f : FuncId} {args : List AV} (h : (kt6 f args []).wp Pg cfg0 evp [] (fun r => ∃ e : Int, e ≠ 4 ∧ r = ⟨.ret (vI e), .none, []⟩)) : E4 f args := by
  obtain ⟨r, h1, e, h2, rfl⟩ := kt6_ex h
  exact ⟨e, h2, h1⟩
theorem kt6_b {f : FuncId} {args : List AV} (h : (kt6 f args []).wp Pg cfg0 evp [] (fun r => ∃ b, r = ⟨.ret (vB b), .none, []⟩)) : Bl f args := by
  obtain ⟨r, h1, b, rfl⟩ := kt6_ex h
  exact ⟨b, h1⟩
section
variable {QD : List (St → Prop)} {QR : CRes → Prop}
theorem wp_call4 {g : FuncId} {args : List AV} {k : Int → KT} (hc : E4 g args) (h : ∀ e : Int, e ≠ 4 → (k e).wp Pg cfg0 evp QD QR) : (KT.exI fun i => .call g args .none [] ⟨.ret (vI i), .none, []⟩ (k i)).wp Pg cfg0 evp QD QR := by
  obtain ⟨e, h1, h2⟩ := hc
  exact ⟨e, h2, h e h1⟩
theorem wp_callBl {g : FuncId} {args : List AV} {k : Bool → KT} (hc : Bl g args) (h : ∀ b, (k b).wp Pg cfg0 evp QD QR) : (KT.exB fun i => .call g args .none [] ⟨.ret (vB i), .none, []⟩ (k i)).wp Pg cfg0 evp QD QR := by
  obtain ⟨e, h2⟩ := hc
  exact ⟨e, h2, h e⟩
theorem wp_byteU {s : ByteArray} {i : Int} {k : UInt8 → KT} (h0 : 0 ≤ i) (h : i.toNat < s.size) (hk : ∀ y, (k y).wp Pg cfg0 evp QD QR) : (KT.exY fun y => .byte s i y (k y)).wp Pg cfg0 evp QD QR :=
  ⟨s[i.toNat], ⟨h0, by rw [getElem?_pos s i.toNat h]⟩, hk _⟩
end
def SM : Nat := 2000000000
theorem r2low (c : UInt8) : Bl f_waferref02_low [.val (.int .u8 c.toNat)] := kt6_b (wp_eq2 (X_r2low_eq c) (by repeat' first | exact ⟨_, rfl⟩ | refine wp_need ?_ | refine wp_if2 (fun h => ?_) (fun h => ?_)))
theorem r2high (c : UInt8) : Bl f_waferref02_high [.val (.int .u8 c.toNat)] := kt6_b (wp_eq2 (X_r2high_eq c) (by repeat' first | exact ⟨_, rfl⟩ | refine wp_need ?_ | refine wp_if2 (fun h => ?_) (fun h => ?_)))
theorem r2digit (c : UInt8) : Bl f_waferref02_digit [.val (.int .u8 c.toNat)] := kt6_b (wp_eq2 (X_r2digit_eq c) (by repeat' first | exact ⟨_, rfl⟩ | refine wp_need ?_ | refine wp_if2 (fun h => ?_) (fun h => ?_)))
theorem y_r2Right (s : ByteArray) : (X_r2Right s).K ⟨tm2 55 [(0, (vS (s)))], lm2 55 [], ⟨[], [], .none, 0⟩⟩ = Y_r2Right s := by delta X_r2Right Y_r2Right; rfl
theorem y_r2Tyvar (s : ByteArray) : (X_r2Tyvar s).K ⟨tm2 36 [(0, (vS (s)))], lm2 36 [], ⟨[], [], .none, 0⟩⟩ = Y_r2Tyvar s := by delta X_r2Tyvar Y_r2Tyvar; rfl
theorem y_r2Path (p : List (List AV)) : (X_r2Path p).F.F = Y_r2Path p := by delta X_r2Path Y_r2Path; rfl
theorem r2Right {s : ByteArray} (hs : s.size < SM) : ∃ e : Int, evp f_waferref02_Right [vS s] .none [] = some ⟨.ret (vI e), .none, []⟩ ∧ (e = 0 → 0 < s.size) ∧ e ≠ 4 := by
  unfold SM at hs
  obtain ⟨r, h1, e, rfl, h2⟩ := kt6_ex (f := f_waferref02_Right) (args := [vS s]) (H := []) (Q := fun r => ∃ e : Int, r = ⟨.ret (vI e), .none, []⟩ ∧ (e = 0 → 0 < s.size) ∧ e ≠ 4) (by
    have hl : 0 < s.size → (Y_r2Right s).wp Pg cfg0 evp [] (fun r => ∃ e : Int, r = ⟨.ret (vI e), .none, []⟩ ∧ (e = 0 → 0 < s.size) ∧ e ≠ 4) := by
      intro hpos
      refine loop6 (fun i : Nat => ⟨tm2 55 [(0, (vS (s))), (3, (vI i))], lm2 55 [], ⟨[], [], .none, 0⟩⟩) (fun i => i ≤ s.size) (fun i => s.size - i) 0 (by kernel_rfl) (Nat.zero_le _) ?_
      intro i hi
      refine wp_eq2 (X_r2RightR_eq s i) ?_
      refine wp_if2 (fun h => ?_) (fun h => ?_)
      · have h := of_decide_eq_true h
        rw [kw_succ (x := i) (by omega)]
        repeat' first
          | exact ⟨_, rfl, fun h => absurd h (by decide), by decide⟩
          | exact wp_done ⟨i + 1, ⟨by omega, by omega⟩, rfl⟩
          | refine wp_need ?_
          | refine wp_out ?_
          | refine wp_byteU (Int.natCast_nonneg i) (by rw [Int.toNat_natCast]; omega) (fun y => ?_)
          | refine wp_callBl (r2low _) (fun b => ?_)
          | refine wp_callBl (r2high _) (fun b => ?_)
          | refine wp_callBl (r2digit _) (fun b => ?_)
          | refine wp_if2 (fun h => ?_) (fun h => ?_)
      · repeat' first
          | exact ⟨_, rfl, fun h => absurd h (by decide), by decide⟩
          | exact ⟨_, rfl, fun _ => hpos, by decide⟩
          | refine wp_need ?_
          | refine wp_out ?_
          | refine wp_callBl ⟨_, c_rReserved s⟩ (fun b => ?_)
          | refine wp_if2 (fun h => ?_) (fun h => ?_)
    refine wp_eq2 (X_r2Right_eq s) (wp_stage (wp_if2 (fun h => ?_) (fun h => ?_)))
    · exact wp_out (wp_need ⟨_, rfl, fun h => absurd h (by decide), by decide⟩)
    · have hp : 0 < s.size := by have := beq_eq_false_iff_ne.1 h; omega
      repeat' first
        | exact ⟨_, rfl, fun h => absurd h (by decide), by decide⟩
        | exact wp_done (wp_eq2 (y_r2Right s) (hl hp))
        | refine wp_need ?_
        | refine wp_out ?_
        | refine wp_byteU (by decide) (by simpa using hp) (fun y => ?_)
        | refine wp_callBl (r2low _) (fun b => ?_)
        | refine wp_callBl (r2high _) (fun b => ?_)
        | refine wp_if2 (fun h => ?_) (fun h => ?_))
  exact ⟨e, h1, h2⟩
theorem r2Upper {s : ByteArray} (hs : s.size < SM) : Bl f_waferref02_Upper [vS s] := by
  obtain ⟨e, h1, h2, h3⟩ := r2Right hs
  refine kt6_b (wp_eq2 (X_r2Upper_eq s) ⟨e, h1, wp_if2 (fun h => ?_) (fun h => wp_need ⟨_, rfl⟩)⟩)
  exact wp_byteU (by decide) (by simpa using h2 (beq_iff_eq.1 h)) (fun y => wp_callBl (r2high _) fun b => wp_need ⟨_, rfl⟩)
theorem r2Tyvar {s : ByteArray} (hs : s.size < SM) : Bl f_waferref02_Tyvar [vS s] := by
  unfold SM at hs
  refine kt6_b ?_
  have hl : (Y_r2Tyvar s).wp Pg cfg0 evp [] (fun r => ∃ b, r = ⟨.ret (vB b), .none, []⟩) := by
    refine loop6 (fun i : Nat => ⟨tm2 36 [(0, (vS (s))), (3, (vI i))], lm2 36 [], ⟨[], [], .none, 0⟩⟩) (fun i => i ≤ s.size) (fun i => s.size - i) 0 (by kernel_rfl) (Nat.zero_le _) ?_
    intro i hi
    refine wp_eq2 (X_r2TyvarR_eq s i) (wp_if2 (fun h => ?_) (fun h => ?_))
    · have h := of_decide_eq_true h
      rw [kw_succ (x := i) (by omega)]
      repeat' first
        | exact ⟨_, rfl⟩
        | exact wp_done ⟨i + 1, ⟨by omega, by omega⟩, rfl⟩
        | refine wp_need ?_
        | refine wp_out ?_
        | refine wp_byteU (Int.natCast_nonneg i) (by rw [Int.toNat_natCast]; omega) (fun y => ?_)
        | refine wp_callBl (r2low _) (fun b => ?_)
        | refine wp_callBl (r2digit _) (fun b => ?_)
        | refine wp_if2 (fun h => ?_) (fun h => ?_)
    · repeat' first
        | exact ⟨_, rfl⟩
        | refine wp_need ?_
        | refine wp_out ?_
  refine wp_eq2 (X_r2Tyvar_eq s) (wp_stage (wp_if2 (fun h => ?_) (fun h => ?_)))
  · exact wp_out (wp_need ⟨_, rfl⟩)
  · have hp : 0 < s.size := by have := beq_eq_false_iff_ne.1 h; omega
    repeat' first
      | exact ⟨_, rfl⟩
      | exact wp_done (wp_eq2 (y_r2Tyvar s) hl)
      | refine wp_need ?_
      | refine wp_out ?_
      | refine wp_byteU (by decide) (by simpa using hp) (fun y => ?_)
      | refine wp_callBl (r2low _) (fun b => ?_)
      | refine wp_if2 (fun h => ?_) (fun h => ?_)
theorem bsz (t : T) : (bs t).size = t.length := by simp [bs, ByteArray.size]
theorem pth_at {p : List T} (hp : pathOk p) {i : Nat} (hi : i < (pRows p).length) : ∃ s : ByteArray, (pRows p)[i]? = some [vS s] ∧ s.size < SM := by
  simp only [List.length_map] at hi
  refine ⟨bs p[i], by simp [pRows, hi], ?_⟩
  have := hp.2 p[i] (List.getElem_mem hi)
  unfold nameOk at this
  rw [bsz]; unfold SM; omega
theorem r2Path {p : List T} (hp : pathOk p) : ∃ e : Int, evp f_waferref02_Path [.slice 1 (pRows p) .no] .none [] = some ⟨.ret (vI e), .none, []⟩ ∧ (e = 0 → 0 < (pRows p).length) ∧ e ≠ 4 := by
  have h8 : (pRows p).length ≤ 8 := by simpa using hp.1
  obtain ⟨r, h1, e, rfl, h2⟩ := kt6_ex (f := f_waferref02_Path) (args := [.slice 1 (pRows p) .no]) (H := []) (Q := fun r => ∃ e : Int, r = ⟨.ret (vI e), .none, []⟩ ∧ (e = 0 → 0 < (pRows p).length) ∧ e ≠ 4) (by
    have hl : 0 < (pRows p).length → (Y_r2Path (pRows p)).wp Pg cfg0 evp [] (fun r => ∃ e : Int, r = ⟨.ret (vI e), .none, []⟩ ∧ (e = 0 → 0 < (pRows p).length) ∧ e ≠ 4) := by
      intro hpos
      refine loop6 (fun i : Nat => ⟨tm2 38 [(0, (.slice 1 (pRows p) .no)), (3, (vI i))], lm2 38 [], ⟨[], [], .none, 0⟩⟩) (fun i => i ≤ (pRows p).length) (fun i => (pRows p).length - i) 0 (by kernel_rfl) (Nat.zero_le _) ?_
      intro i hi
      refine wp_eq2 (X_r2PathR_eq (pRows p) i) (wp_if2 (fun h => ?_) (fun h => ?_))
      · have h := of_decide_eq_true h
        obtain ⟨s, hs1, hs2⟩ := pth_at hp (i := i) (by omega)
        obtain ⟨e, h1, h2, h3⟩ := r2Right hs2
        rw [kw_succ (x := i) (by omega)]
        refine ⟨s, ⟨Int.natCast_nonneg i, hs1⟩, e, h1, wp_if2 (fun hne => wp_out (wp_need ⟨_, rfl, fun h0 => absurd h0 (bne_iff_ne.1 hne), h3⟩)) (fun _ => wp_if2 (fun _ => ⟨s, ⟨Int.natCast_nonneg i, hs1⟩, ?_⟩) (fun _ => ?_))⟩
        · refine wp_callBl (r2Upper hs2) (fun b => wp_if2 (fun _ => wp_out (wp_need ⟨_, rfl, fun h => absurd h (by decide), by decide⟩)) (fun _ => wp_done ⟨i + 1, ⟨by omega, by omega⟩, rfl⟩))
        · exact wp_done ⟨i + 1, ⟨by omega, by omega⟩, rfl⟩
      · exact wp_out (wp_need ⟨_, rfl, fun _ => hpos, by decide⟩)
    refine wp_eq2 (X_r2Path_eq (pRows p)) (wp_if2 (fun h => wp_need ⟨_, rfl, fun h => absurd h (by decide), by decide⟩) (fun h => wp_if2 (fun h2 => wp_need ⟨_, rfl, fun h => absurd h (by decide), by decide⟩) (fun h2 => ?_)))
    have h := beq_eq_false_iff_ne.1 h
    exact wp_eq2 (y_r2Path _) (hl (by omega)))
  exact ⟨e, h1, h2⟩
theorem r4name {s : ByteArray} {b : Bool} (hs : s.size < SM) : E4 f_waferref04_name [vS s, vB b] := by
  obtain ⟨e, h1, h2, h3⟩ := r2Right hs
  refine kt6_e (wp_eq2 (X_rnameb_eq s b) ⟨e, h1, wp_if2 (fun h => wp_need ⟨_, h3, rfl⟩) (fun h => wp_callBl (r2Upper hs) fun b => wp_if2 (fun _ => wp_need ⟨_, by decide, rfl⟩) (fun _ => wp_need ⟨_, by decide, rfl⟩))⟩)
theorem r4last {p : List T} {b : Bool} (hp : pathOk p) : E4 f_waferref04_last [.slice 1 (pRows p) .no, vB b] := by
  obtain ⟨e, h1, h2, h3⟩ := r2Path hp
  have h8 : (pRows p).length ≤ 8 := by simpa using hp.1
  refine kt6_e (wp_eq2 (X_rlast_eq (pRows p) b) ⟨e, h1, wp_if2 (fun h => wp_need ⟨_, h3, rfl⟩) (fun h => ?_)⟩)
  have hpos := h2 (by simpa using h)
  obtain ⟨s, hs1, hs2⟩ := pth_at hp (i := (pRows p).length - 1) (by omega)
  have hidx : IntKind.i64.wrap (((pRows p).length : Int) - 1) = (((pRows p).length - 1 : Nat) : Int) := by
    obtain ⟨n, hn⟩ : ∃ n, (pRows p).length = n + 1 := ⟨(pRows p).length - 1, by omega⟩
    rw [hn, kw_pred (by omega)]; rfl
  rw [hidx]
  exact ⟨s, ⟨Int.natCast_nonneg _, by rw [Int.toNat_natCast]; exact hs1⟩, wp_call4 (r4name hs2) fun e he => wp_need ⟨_, he, rfl⟩⟩
theorem r4con {p : List T} (hp : pathOk p) : E4 f_waferref04_con [.slice 1 (pRows p) .no] := by
  refine kt6_e (wp_eq2 (X_rconp_eq (pRows p)) (wp_if2 (fun h => ?_) (fun h => wp_call4 (r4last hp) fun e he => wp_need ⟨_, he, rfl⟩)))
  have hl : (pRows p).length = 1 := by have := beq_iff_eq.1 h; omega
  obtain ⟨s, h1, h2⟩ := pth_at hp (i := 0) (by omega)
  repeat' first
    | exact ⟨_, by decide, rfl⟩
    | refine wp_need ?_
    | refine ⟨s, ⟨by decide, h1⟩, ?_⟩
    | refine wp_if2 (fun h => ?_) (fun h => ?_)
    | exact wp_call4 (r4last hp) fun e he => wp_need ⟨_, he, rfl⟩
theorem y_rtys (p : List (List AV)) : X_rtys p = Y_rtys p := by delta X_rtys Y_rtys; rfl
theorem r4tys {l : List Ty} (hl : l.length < SM) (h : ∀ t ∈ l, E4 f_waferref04_ty [tyV t]) : E4 f_waferref04_tys [.slice 4 (l.map fun t => avs t.row) .no] := by
  unfold SM at hl
  refine kt6_e (wp_eq2 (X_rtys_eq _) (wp_eq2 (y_rtys _) (loop6 (fun i : Nat => ⟨tm2 19 [(0, (.slice 4 (l.map fun t => avs t.row) .no)), (3, (vI i))], lm2 19 [], ⟨[], [], .none, 0⟩⟩) (fun i => i ≤ l.length) (fun i => l.length - i) 0 (by kernel_rfl) (Nat.zero_le _) ?_)))
  intro i hi
  refine wp_eq2 (X_rtysR_eq _ i) (wp_if2 (fun hlt => ?_) (fun _ => wp_out (wp_need ⟨_, by decide, rfl⟩)))
  have hlt := of_decide_eq_true hlt
  simp only [List.length_map] at hlt
  have hi2 : i < l.length := by omega
  have hr : (l.map fun t => avs t.row)[i]? = some [vI (tyK l[i]), vS (tyN l[i]), .slice 1 (tyP l[i]) .no, .slice 4 (tyQ l[i]) .no] := by
    rw [List.getElem?_map, List.getElem?_eq_getElem hi2, Option.map_some, ty_row]
  have hc := h l[i] (List.getElem_mem hi2)
  rw [← tyV_eq] at hc
  rw [kw_succ (x := i) (by omega)]
  exact ⟨_, _, _, _, ⟨Int.natCast_nonneg i, by rw [Int.toNat_natCast]; exact hr⟩, wp_call4 hc fun e he => wp_if2 (fun _ => wp_out (wp_need ⟨_, he, rfl⟩)) (fun _ => wp_done ⟨i + 1, ⟨by omega, by omega⟩, rfl⟩)⟩
theorem r4ty : ∀ t : Ty, t.Ok → E4 f_waferref04_ty [tyV t]
  | .var n, h => by
    have hn : (bs n).size < SM := by have : n.length ≤ 4096 := h; rw [bsz]; unfold SM; omega
    refine kt6_e (wp_eq2 (X_rty1_eq (bs n)) ?_)
    repeat' first
      | exact ⟨_, by decide, rfl⟩
      | refine wp_need ?_
      | refine wp_out ?_
      | refine wp_stage ?_
      | refine wp_callBl (r2Tyvar hn) (fun b => ?_)
      | exact absurd ‹_› (by decide)
      | refine wp_if2 (fun h => ?_) (fun h => ?_)
      | refine wp_done (wp_eq2 (X_rty1s1_eq _) ?_)
  | .con p, hpok => by
    have e : tyV (.con p) = .agg [vI 2, vS ⟨#[]⟩, .slice 1 (pRows p) .no, .slice 4 [] .no] := by rw [← tyV_eq]; rfl
    rw [e]
    refine kt6_e (wp_eq2 (X_rty2_eq (pRows p)) ?_)
    repeat' first
      | exact ⟨_, by decide, rfl⟩
      | exact ⟨_, by assumption, rfl⟩
      | refine wp_need ?_
      | refine wp_out ?_
      | refine wp_stage ?_
      | refine wp_call4 (r4con hpok) (fun e he => ?_)
      | exact absurd ‹_› (by decide)
      | refine wp_if2 (fun h => ?_) (fun h => ?_)
      | refine wp_done (wp_eq2 (X_rty2s2_eq _) ?_)
  | .fn a b, h => by
    have ha := r4ty a h.1
    have hb := r4ty b h.2
    have ht : E4 f_waferref04_tys [.slice 4 [avs a.row, avs b.row] .no] := r4tys (l := [a, b]) (by unfold SM; simp) (fun t ht => by
      simp at ht; rcases ht with rfl | rfl
      · exact ha
      · exact hb)
    refine kt6_e (wp_eq2 (X_rty3_eq (avs a.row) (avs b.row)) ?_)
    repeat' first
      | exact ⟨_, by decide, rfl⟩
      | exact ⟨_, by assumption, rfl⟩
      | refine wp_need ?_
      | refine wp_out ?_
      | refine wp_stage ?_
      | refine wp_call4 ht (fun e he => ?_)
      | exact absurd ‹_› (by decide)
      | refine wp_if2 (fun h => ?_) (fun h => ?_)
      | refine wp_done (wp_eq2 (X_rty3s3_eq _ _) ?_)
  | .pair a b, h => by
    have ha := r4ty a h.1
    have hb := r4ty b h.2
    have ht : E4 f_waferref04_tys [.slice 4 [avs a.row, avs b.row] .no] := r4tys (l := [a, b]) (by unfold SM; simp) (fun t ht => by
      simp at ht; rcases ht with rfl | rfl
      · exact ha
      · exact hb)
    refine kt6_e (wp_eq2 (X_rty4_eq (avs a.row) (avs b.row)) ?_)
    repeat' first
      | exact ⟨_, by decide, rfl⟩
      | exact ⟨_, by assumption, rfl⟩
      | refine wp_need ?_
      | refine wp_out ?_
      | refine wp_stage ?_
      | refine wp_call4 ht (fun e he => ?_)
      | exact absurd ‹_› (by decide)
      | refine wp_if2 (fun h => ?_) (fun h => ?_)
      | refine wp_done (wp_eq2 (X_rty4s4_eq _ _) ?_)
end Go.Proofs
end

section
/- PARSE: the document's depth and sameness of types -/
set_option linter.unusedVariables false
set_option linter.unusedSimpArgs false
set_option maxRecDepth 100000
open Go Go.Eng Go.Pa
open Go.Lx (T Tok)
namespace Go.Proofs
theorem kt6_is {f : FuncId} {args : List AV} {H : Heap} {r : CRes} (h : (kt6 f args H).wp Pg cfg0 evp [] (fun x => x = r)) : evp f args .none H = some r := kt6_ev h
def tyKids : Ty → List Ty
  | .fn a b => [a, b]
  | .pair a b => [a, b]
  | _ => []
abbrev tRows (l : List Ty) : List (List AV) := l.map fun t => avs t.row
theorem tyQ_kids (t : Ty) : tyQ t = tRows (tyKids t) := by cases t <;> rfl
theorem kids_cnt {t k : Ty} (h : k ∈ tyKids t) : k.cnt < t.cnt := by
  cases t with
  | fn a b => simp [tyKids] at h; rcases h with rfl | rfl <;> (simp only [Ty.cnt]; omega)
  | pair a b => simp [tyKids] at h; rcases h with rfl | rfl <;> (simp only [Ty.cnt]; omega)
  | _ => simp [tyKids] at h
theorem kids_ok {t k : Ty} (ho : t.Ok) (h : k ∈ tyKids t) : k.Ok := by
  cases t with
  | fn a b => simp [tyKids] at h; rcases h with rfl | rfl; exact ho.1; exact ho.2
  | pair a b => simp [tyKids] at h; rcases h with rfl | rfl; exact ho.1; exact ho.2
  | _ => simp [tyKids] at h
theorem kids_len (t : Ty) : (tyKids t).length ≤ 2 := by cases t <;> simp [tyKids]
theorem trow_at {l : List Ty} {i : Nat} (h : i < l.length) : (0 : Int) ≤ (i : Int) ∧ (tRows l)[(i : Int).toNat]? = some [vI (tyK l[i]), vS (tyN l[i]), .slice 1 (tyP l[i]) .no, .slice 4 (tyQ l[i]) .no] :=
  ⟨Int.natCast_nonneg i, by rw [Int.toNat_natCast, List.getElem?_map, List.getElem?_eq_getElem h, Option.map_some, ty_row]⟩
theorem tyP_ok {t : Ty} (h : t.Ok) : ∃ p, tyP t = pRows p ∧ pathOk p := by
  cases t with
  | con p => exact ⟨p, rfl, h⟩
  | _ => exact ⟨[], rfl, by simp, fun w hw => by cases hw⟩
theorem r4texts {p : List T} (hp : p.length < SM) : evp f_waferref04_texts [.slice 1 (pRows p) .no, .slice 1 (pRows p) .no] .none [] = some ⟨.ret (vB true), .none, []⟩ := by
  unfold SM at hp
  have hY : (X_rtexts (pRows p) (pRows p)).F = Y_rtexts (pRows p) (pRows p) := by delta X_rtexts Y_rtexts; rfl
  refine kt6_is (wp_eq2 (X_rtexts_eq ..) (wp_if2 (fun h => absurd rfl (bne_iff_ne.1 h)) (fun _ => wp_eq2 hY (loop6 (fun i : Nat => ⟨tm2 26 [(0, (.slice 1 (pRows p) .no)), (1, (.slice 1 (pRows p) .no)), (5, (vI (i)))], lm2 26 [], ⟨[], [], .none, 0⟩⟩) (fun i => i ≤ p.length) (fun i => p.length - i) 0 (by kernel_rfl) (Nat.zero_le _) ?_))))
  intro i hi
  refine wp_eq2 (X_rtextsR_eq ..) (wp_if2 (fun hlt => ?_) (fun _ => wp_out ⟨rfl, rfl⟩))
  have hlt := of_decide_eq_true hlt
  simp only [List.length_map] at hlt
  have hi2 : i < p.length := by omega
  have hr : (0 : Int) ≤ (i : Int) ∧ (pRows p)[(i : Int).toNat]? = some [vS (bs p[i])] := ⟨Int.natCast_nonneg i, by rw [Int.toNat_natCast, List.getElem?_map, List.getElem?_eq_getElem hi2]; rfl⟩
  rw [kw_succ (x := i) (by omega)]
  refine ⟨_, hr, _, hr, wp_if2 (fun h => ?_) (fun _ => wp_done ⟨i + 1, ⟨by omega, by omega⟩, rfl⟩)⟩
  rw [beq_tx] at h; simp at h
theorem same_round {own : Own} {l : List Ty} {N : Nat} (hl : l.length < SM) (ho : ∀ t ∈ l, t.Ok) (hc : ∀ t ∈ l, t.cnt ≤ N)
    (ih : ∀ M, M < N → ∀ l : List Ty, l.length < SM → (∀ t ∈ l, t.Ok) → (∀ t ∈ l, t.cnt ≤ M) → evp f_waferref04_tysSame [.slice 4 (tRows l) .no, .slice 4 (tRows l) .no] .none [] = some ⟨.ret (vB true), .none, []⟩) {i : Nat} (hi : i < l.length) :
    evp f_waferref04_tysSame [.slice 4 (tyQ l[i]) .no, .slice 4 (tyQ l[i]) .no] .none [] = some ⟨.ret (vB true), .none, []⟩ ∧ evp f_waferref04_texts [.slice 1 (tyP l[i]) .no, .slice 1 (tyP l[i]) .no] .none [] = some ⟨.ret (vB true), .none, []⟩ := by
  have hm := List.getElem_mem hi
  have h1 := hc _ hm
  have h2 := (dep_cnt l[i]).2
  obtain ⟨p, hp1, hp2⟩ := tyP_ok (ho _ hm)
  rw [tyQ_kids, hp1]
  refine ⟨ih (N - 1) (by omega) _ (by have := kids_len l[i]; unfold SM; omega) (fun t ht => kids_ok (ho _ hm) ht) (fun t ht => by have := kids_cnt ht; omega), r4texts (by have := hp2.1; unfold SM; omega)⟩
theorem r4tysSame : ∀ N (l : List Ty), l.length < SM → (∀ t ∈ l, t.Ok) → (∀ t ∈ l, t.cnt ≤ N) → evp f_waferref04_tysSame [.slice 4 (tRows l) .no, .slice 4 (tRows l) .no] .none [] = some ⟨.ret (vB true), .none, []⟩ := by
  intro N
  induction N using Nat.strongRecOn with
  | ind N ih =>
    intro l hl ho hc
    have hl' := hl
    unfold SM at hl'
    have hY : (X_rtysSame (tRows l) (tRows l)).F = Y_rtysSame (tRows l) (tRows l) := by delta X_rtysSame Y_rtysSame; rfl
    refine kt6_is (wp_eq2 (X_rtysSame_eq ..) (wp_if2 (fun h => absurd rfl (bne_iff_ne.1 h)) (fun _ => wp_eq2 hY (loop6 (fun i : Nat => ⟨tm2 53 [(0, (.slice 4 (tRows l) .no)), (1, (.slice 4 (tRows l) .no)), (5, (vI (i)))], lm2 53 [], ⟨[], [], .none, 0⟩⟩) (fun i => i ≤ l.length) (fun i => l.length - i) 0 (by kernel_rfl) (Nat.zero_le _) ?_))))
    intro i hi
    refine wp_eq2 (X_rtysSameR_eq ..) (wp_if2 (fun hlt => ?_) (fun _ => wp_out ⟨rfl, rfl⟩))
    have hlt := of_decide_eq_true hlt
    simp only [List.length_map] at hlt
    have hi2 : i < l.length := by omega
    obtain ⟨q1, q2⟩ := same_round (own := .no) hl ho hc ih hi2
    refine ⟨_, _, _, _, trow_at hi2, _, _, _, _, trow_at hi2, wp_stage (wp_if2 (fun h => absurd rfl (bne_iff_ne.1 h)) (fun _ => wp_if2 (fun h => by rw [beq_tx] at h; simp at h) (fun _ => ⟨true, q2, wp_if2 nf (fun _ => wp_done (wp_eq2 (X_rtysSameRs1_eq ..) ⟨true, q1, wp_if2 nf (fun _ => ?_)⟩))⟩)))⟩
    rw [kw_succ (x := i) (by omega)]
    exact wp_done ⟨i + 1, ⟨by omega, by omega⟩, rfl⟩
theorem r4SameTy {t : Ty} (ho : t.Ok) : evp f_waferref04_SameTy [tyV t, tyV t] .none [] = some ⟨.ret (vB true), .none, []⟩ := by
  rw [← tyV_eq]
  refine kt6_is (wp_eq2 (X_rSameTy_eq ..) ⟨true, ?_, rfl, rfl⟩)
  have e : [[vI (tyK t), vS (tyN t), .slice 1 (tyP t) .no, .slice 4 (tyQ t) .no]] = tRows [t] := by simp only [tRows, List.map_cons, List.map_nil, ty_row]
  rw [e]
  have hY : (X_rtysSamef (tRows [t]) (tRows [t])).F = Y_rtysSamef (tRows [t]) (tRows [t]) := by delta X_rtysSamef Y_rtysSamef; rfl
  refine kt6_is (wp_eq2 (X_rtysSamef_eq ..) (wp_if2 (fun h => absurd rfl (bne_iff_ne.1 h)) (fun _ => wp_eq2 hY (loop6 (fun i : Nat => ⟨tm2 53 [(0, (.slice 4 (tRows [t]) .full)), (1, (.slice 4 (tRows [t]) .full)), (5, (vI (i)))], lm2 53 [], ⟨[], [], .none, 0⟩⟩) (fun i => i ≤ 1) (fun i => 1 - i) 0 (by kernel_rfl) (Nat.zero_le _) ?_))))
  intro i hi
  refine wp_eq2 (X_rtysSamefR_eq ..) (wp_if2 (fun hlt => ?_) (fun _ => wp_out ⟨rfl, rfl⟩))
  have hlt := of_decide_eq_true hlt
  simp only [List.length_map, List.length_cons, List.length_nil] at hlt
  have hi2 : i < [t].length := by simp; omega
  have ho' : ∀ u ∈ [t], u.Ok := fun u hu => by simp at hu; subst hu; exact ho
  obtain ⟨q1, q2⟩ := same_round (own := .full) (N := t.cnt) (l := [t]) (by unfold SM; simp) ho' (fun u hu => by simp at hu; subst hu; exact Nat.le_refl _) (fun M _ l h1 h2 h3 => r4tysSame M l h1 h2 h3) hi2
  refine ⟨_, _, _, _, trow_at hi2, _, _, _, _, trow_at hi2, wp_stage (wp_if2 (fun h => absurd rfl (bne_iff_ne.1 h)) (fun _ => wp_if2 (fun h => by rw [beq_tx] at h; simp at h) (fun _ => ⟨true, q2, wp_if2 nf (fun _ => wp_done (wp_eq2 (X_rtysSamefRs1_eq ..) ⟨true, q1, wp_if2 nf (fun _ => ?_)⟩))⟩)))⟩
  rw [kw_succ (x := i) (by omega)]
  exact wp_done ⟨i + 1, ⟨by omega, by omega⟩, rfl⟩
/-! ### depth -/
def depL : List Ty → Nat
  | [] => 0
  | t :: l => max t.dep (depL l)
theorem depL_app (a b : List Ty) : depL (a ++ b) = max (depL a) (depL b) := by
  induction a with
  | nil => simp [depL]
  | cons t a ih => simp only [List.cons_append, depL, ih]; omega
theorem dep_kids (t : Ty) : t.dep = depL (tyKids t) + 1 := by cases t <;> simp [Ty.dep, tyKids, depL]
theorem depL_take {l : List Ty} {i : Nat} (h : i < l.length) : depL (l.take (i + 1)) = max (depL (l.take i)) l[i].dep := by
  rw [List.take_succ_eq_append_getElem h, depL_app]; simp [depL]
theorem depL_le {l : List Ty} {N : Nat} (h : ∀ t ∈ l, t.cnt ≤ N) : depL l ≤ N := by
  induction l with
  | nil => simp [depL]
  | cons t l ih =>
    have h1 := h t (by simp)
    have h2 := (dep_cnt t).1
    have h3 := ih fun u hu => h u (by simp [hu])
    simp only [depL]; omega
theorem dep_step {QD : List (St → Prop)} {QR : CRes → Prop} {Q : St → Prop} {m d : Nat} {S : Int → St} (hd : d < SM) (h : Q (S (max m (d + 1) : Nat))) :
    (KT.branch (decide ((0 : Int) > (d : Int)))
      (.need true (.branch (decide ((m : Int) > IntKind.i64.wrap (0 + 1))) (.need true (.done (S m))) (.need true (.done (S (IntKind.i64.wrap (0 + 1)))))))
      (.need true (.branch (decide ((m : Int) > IntKind.i64.wrap ((d : Int) + 1))) (.need true (.done (S m))) (.need true (.done (S (IntKind.i64.wrap ((d : Int) + 1)))))))).wp Pg cfg0 evp (Q :: QD) QR := by
  unfold SM at hd
  refine wp_if2 (fun h0 => absurd (of_decide_eq_true h0) (by omega)) (fun _ => ⟨rfl, ?_⟩)
  rw [kw_succ (x := d) (by omega)]
  refine wp_if2 (fun h1 => ⟨rfl, wp_done ?_⟩) (fun h1 => ⟨rfl, wp_done ?_⟩)
  · have h1 := of_decide_eq_true h1
    rw [show max m (d + 1) = m by omega] at h; exact h
  · have h1 := of_decide_eq_false h1
    rw [show max m (d + 1) = d + 1 by omega] at h; exact h
theorem r4tysDepth : ∀ N (l : List Ty), N < SM → l.length < SM → (∀ t ∈ l, t.cnt ≤ N) → evp f_waferref04_tysDepth [.slice 4 (tRows l) .no] .none [] = some ⟨.ret (vI (depL l : Nat)), .none, []⟩ := by
  intro N
  induction N using Nat.strongRecOn with
  | ind N ih =>
    intro l hN hl hc
    have hl' := hl
    unfold SM at hl'
    have hY : X_rtysDepth (tRows l) = Y_rtysDepth (tRows l) := by delta X_rtysDepth Y_rtysDepth; rfl
    refine kt6_is (wp_eq2 (X_rtysDepth_eq ..) (wp_eq2 hY (loop6 (fun i : Nat => ⟨tm2 25 [(0, (.slice 4 (tRows l) .no)), (3, (vI (depL (l.take i) : Nat))), (4, (vI (i)))], lm2 25 [], ⟨[], [], .none, 0⟩⟩) (fun i => i ≤ l.length) (fun i => l.length - i) 0 (by kernel_rfl) (Nat.zero_le _) ?_)))
    intro i hi
    refine wp_eq2 (X_rtysDepthR_eq ..) (wp_if2 (fun hlt => ?_) (fun hlt => wp_out ⟨rfl, ?_⟩))
    · have hlt := of_decide_eq_true hlt
      simp only [List.length_map] at hlt
      have hi2 : i < l.length := by omega
      have h1 := hc _ (List.getElem_mem hi2)
      have h2 := (dep_cnt l[i]).2
      have hk := ih (N - 1) (by omega) (tyKids l[i]) (by omega) (by have := kids_len l[i]; unfold SM; omega) (fun t ht => by have := kids_cnt ht; omega)
      rw [← tyQ_kids] at hk
      have hdl := depL_le (l := tyKids l[i]) (N := N) (fun t ht => by have := kids_cnt ht; omega)
      refine ⟨_, _, _, _, trow_at hi2, _, hk, ?_⟩
      rw [kw_succ (x := i) (by omega)]
      refine dep_step (S := fun m => ⟨tm2 25 [(0, (.slice 4 (tRows l) .no)), (3, (vI m)), (4, (vI ((i + 1 : Nat) : Int)))], lm2 25 [], ⟨[], [], .none, 0⟩⟩) (by omega) ⟨i + 1, ⟨by omega, by omega⟩, ?_⟩
      rw [depL_take hi2, dep_kids]
    · have hlt := of_decide_eq_false hlt
      simp only [List.length_map] at hlt
      rw [show i = l.length by omega, List.take_length]
      exact rfl
theorem r4RightTy {t : Ty} (ho : t.Ok) (hc : t.cnt < SM) : ∃ e : Int, evp f_waferref04_RightTy [tyV t] .none [] = some ⟨.ret (vI e), .none, []⟩ ∧ (e = 4 ↔ 100 < t.dep) := by
  obtain ⟨e0, h40, h0⟩ := r4ty t ho
  rw [← tyV_eq] at h0 ⊢
  have e : [[vI (tyK t), vS (tyN t), .slice 1 (tyP t) .no, .slice 4 (tyQ t) .no]] = tRows [t] := by simp only [tRows, List.map_cons, List.map_nil, ty_row]
  have hd : evp f_waferref04_tysDepth [.slice 4 [[vI (tyK t), vS (tyN t), .slice 1 (tyP t) .no, .slice 4 (tyQ t) .no]] .full] .none [] = some ⟨.ret (vI (t.dep : Nat)), .none, []⟩ := by
    rw [e]
    have hY : X_rtysDepthf (tRows [t]) = Y_rtysDepthf (tRows [t]) := by delta X_rtysDepthf Y_rtysDepthf; rfl
    refine kt6_is (wp_eq2 (X_rtysDepthf_eq ..) (wp_eq2 hY (loop6 (fun i : Nat => ⟨tm2 25 [(0, (.slice 4 (tRows [t]) .full)), (3, (vI (depL ([t].take i) : Nat))), (4, (vI (i)))], lm2 25 [], ⟨[], [], .none, 0⟩⟩) (fun i => i ≤ 1) (fun i => 1 - i) 0 (by kernel_rfl) (Nat.zero_le _) ?_)))
    intro i hi
    refine wp_eq2 (X_rtysDepthfR_eq ..) (wp_if2 (fun hlt => ?_) (fun hlt => wp_out ⟨rfl, ?_⟩))
    · have hlt := of_decide_eq_true hlt
      simp only [List.length_map, List.length_cons, List.length_nil] at hlt
      obtain rfl : i = 0 := by omega
      have hi2 : 0 < [t].length := by simp
      have h1 : [t][0].cnt ≤ t.cnt := Nat.le_refl _
      have hk := r4tysDepth t.cnt (tyKids [t][0]) hc (by have := kids_len [t][0]; unfold SM; omega) (fun u hu => by have := kids_cnt hu; omega)
      rw [← tyQ_kids] at hk
      have hdl := depL_le (l := tyKids [t][0]) (N := t.cnt) (fun u hu => by have := kids_cnt hu; omega)
      refine ⟨_, _, _, _, trow_at hi2, _, hk, ?_⟩
      rw [kw_succ (x := 0) (by omega)]
      refine dep_step (S := fun m => ⟨tm2 25 [(0, (.slice 4 (tRows [t]) .full)), (3, (vI m)), (4, (vI ((0 + 1 : Nat) : Int)))], lm2 25 [], ⟨[], [], .none, 0⟩⟩) (by omega) ⟨0 + 1, ⟨by omega, by omega⟩, ?_⟩
      rw [depL_take hi2, dep_kids]
    · have hlt := of_decide_eq_false hlt
      simp only [List.length_map, List.length_cons, List.length_nil] at hlt
      have e2 : depL ([t].take i) = t.dep := by rw [show i = [t].length by simp; omega, List.take_length]; simp [depL]
      rw [e2]; exact rfl
  by_cases h : 100 < t.dep
  · refine ⟨4, kt6_is (wp_eq2 (X_rRightTy_eq ..) ⟨_, hd, wp_if2 (fun _ => ⟨rfl, rfl⟩) (fun hn => absurd (of_decide_eq_false hn) (by omega))⟩), fun _ => h, fun _ => rfl⟩
  · refine ⟨e0, kt6_is (wp_eq2 (X_rRightTy_eq ..) ⟨_, hd, wp_if2 (fun hn => absurd (of_decide_eq_true hn) (by omega)) (fun _ => ⟨_, h0, rfl, rfl⟩)⟩), fun h4 => absurd h4 h40, fun hh => absurd hh h⟩
end Go.Proofs
end

section
/- PARSE: contracts in the empty heap hold in any heap -/
set_option linter.unusedVariables false
set_option linter.unusedSimpArgs false
open Go Go.Eng
namespace Go.Eng
theorem ev_lift0 {P : Program} {cfg : FuncId → FCfg} {g : PExt} (hg : ∀ f e, g f = some e → ∀ args v, e args = some v → ∀ ρ : Nat → Nat, e (args.map (AV.ren ρ)) = some (v.ren ρ)) {f : FuncId} {args : List AV} {o : Out} {K : Heap} (h : ev P cfg g.ext f args .none [] = some ⟨o, .none, []⟩)
    (ha : args.map (AV.ren (· + K.length)) = args) (ho : renOut (· + K.length) o = o) (hk : lowss K.length K = true) : ev P cfg g.ext f args .none K = some ⟨o, .none, K⟩ := by
  have hf : Fr (· + K.length) 0 K.length K := ⟨fun i hi => by omega, fun i hi => by simp, fun i j hi => by omega, fun j cs hj _ _ => by
    rw [lowss_all, List.all_eq_true] at hk
    exact hk cs (List.mem_of_getElem? hj)⟩
  obtain ⟨r, h1, h2⟩ := ev_ren hf (PExt.extR hg) f args .none [] _ h K ⟨Nat.zero_le _, by simp, fun i => by simp, fun j hj _ => rfl⟩
  rw [ha] at h1
  have e0 : renRM (· + K.length) .none = .none := rfl
  rw [e0] at h1
  rw [h1]
  obtain ⟨o', rm', H'⟩ := r
  have e1 := h2.o
  have e2 := h2.rm
  simp only [ho] at e1 e2
  have e3 : H' = K := by
    apply List.ext_getElem?
    intro j
    rcases Nat.lt_or_ge j K.length with hj | hj
    · exact h2.H.off j hj fun i hi => absurd hi (by omega)
    · have := h2.H.len
      simp at this
      rw [List.getElem?_eq_none (by omega), List.getElem?_eq_none hj]
  rw [e1, e2, e3]; rfl
end Go.Eng
end
