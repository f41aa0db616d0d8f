import Derived.Test.YtjallencclngiaaGreatK18
import Derived.Test.YtjallencclngiaaGreatK23
import Derived.Test.YtjallencclngiaaGreatK25
open Go Go.Eng
namespace Go.Proofs
set_option maxRecDepth 100000
set_option linter.unusedVariables false

def cE (k o m : Int) (p a b c d : List (List AV)) : List AV := [sN k, sN o, sN m, sL 1 p, sL 5 a, sL 8 b, sL 9 c, sL 4 d]
def cM (k : Int) (p a b c : List (List AV)) : List AV := [sN k, sL 1 p, sL 9 a, sL 5 b, sL 5 c]
def cG (k : Int) (p a b c : List (List AV)) : List AV := [sN k, sL 1 p, sL 6 a, sL 5 b, sL 4 c]

theorem b8 : Tryz.f8.body = some (bodyOf Tryz.f8) := by kernel_rfl
theorem t8 (a b : List (List AV)) (H : Heap) : kbody Tryz.prog cfg0 sh0 rs0 8 Tryz.f8 (bodyOf Tryz.f8) [.slice 9 a .no, .slice 9 b .no] H = .callB 22 [.slice 9 a .no, .slice 9 b .no] H fun z H => .ret (retB z H) := by kernel_rfl
theorem ref_8 (H : Heap) (xs ys : List Nd) (hf : Few xs) (hxs : Nd.wts xs 53) (hys : Nd.wts ys 53) : tev 8 [.slice 9 (Nd.rows xs) .no, .slice 9 (Nd.rows ys) .no] .none H = some (retB (dq (Nd.keys xs) (Nd.keys ys)) H) :=
  ev_tree (sh := sh0) (rs := rs0) rfl Tryz.func8 b8 (t8 _ _ H) (wp_callB (refs_all H (SizeOf.sizeOf xs + 1) xs (by omega) 53 (by decide) hf hxs .no (by simp) ys hys) rfl)

theorem one_refs (H : Heap) (e : Nat) (he : e ∈ tys) (x y : Nd) (hx : x.wt e) (hy : y.wt e) : tev (refF e) [.slice (szF e) [x.row] .full, .slice (szF e) [y.row] .full] .none H = some (retB (dq x.key y.key) H) := by
  have h := refs_all H (SizeOf.sizeOf [x] + 1) [x] (by omega) e he (by unfold Few maxLen; simp) (Nd.wts_all.2 (by simpa using hx)) .full (by simp) [y] (Nd.wts_all.2 (by simpa using hy))
  have ek : dq (Nd.keys [x]) (Nd.keys [y]) = dq x.key y.key := by rw [Bool.eq_iff_iff, dq_iff, dq_iff]; simp [Nd.keys]
  rw [ek] at h
  simpa only [Nd.rows] using h

theorem b10 : Tryz.f10.body = some (bodyOf Tryz.f10) := by kernel_rfl
theorem t10 (k o m k' o' m' : Int) (p a b c d p' a' b' c' d' : List (List AV)) (H : Heap) : kbody Tryz.prog cfg0 sh0 rs0 10 Tryz.f10 (bodyOf Tryz.f10) [.agg (cE k o m p a b c d), .agg (cE k' o' m' p' a' b' c' d')] H =
    .callB 29 [.slice 8 [cE k o m p a b c d] .full, .slice 8 [cE k' o' m' p' a' b' c' d'] .full] H fun z H => .ret (retB z H) := by kernel_rfl
theorem ref_10 (H : Heap) (x y : Nd) (hx : x.wt 47) (hy : y.wt 47) : tev 10 [.agg x.row, .agg y.row] .none H = some (retB (dq x.key y.key) H) := by
  have h := one_refs H 47 (by decide) x y hx hy
  obtain ⟨k, o, m, p, a, b, c, d, rfl, _⟩ := inv_47 hx
  obtain ⟨k', o', m', p', a', b', c', d', rfl, _⟩ := inv_47 hy
  rw [row_47, row_47] at h ⊢
  exact ev_tree (sh := sh0) (rs := rs0) rfl Tryz.func10 b10 (t10 k o m k' o' m' _ _ _ _ _ _ _ _ _ _ H) (wp_callB h rfl)

theorem b13 : Tryz.f13.body = some (bodyOf Tryz.f13) := by kernel_rfl
theorem t13 (k k' : Int) (p a b c p' a' b' c' : List (List AV)) (H : Heap) : kbody Tryz.prog cfg0 sh0 rs0 13 Tryz.f13 (bodyOf Tryz.f13) [.agg (cM k p a b c), .agg (cM k' p' a' b' c')] H =
    .callB 35 [.slice 5 [cM k p a b c] .full, .slice 5 [cM k' p' a' b' c'] .full] H fun z H => .ret (retB z H) := by kernel_rfl
theorem ref_13 (H : Heap) (x y : Nd) (hx : x.wt 74) (hy : y.wt 74) : tev 13 [.agg x.row, .agg y.row] .none H = some (retB (dq x.key y.key) H) := by
  have h := one_refs H 74 (by decide) x y hx hy
  obtain ⟨k, p, a, b, c, rfl, _⟩ := inv_74 hx
  obtain ⟨k', p', a', b', c', rfl, _⟩ := inv_74 hy
  rw [row_74, row_74] at h ⊢
  exact ev_tree (sh := sh0) (rs := rs0) rfl Tryz.func13 b13 (t13 k k' _ _ _ _ _ _ _ _ H) (wp_callB h rfl)

theorem b15 : Tryz.f15.body = some (bodyOf Tryz.f15) := by kernel_rfl
theorem t15 (k k' : Int) (p a b c p' a' b' c' : List (List AV)) (H : Heap) : kbody Tryz.prog cfg0 sh0 rs0 15 Tryz.f15 (bodyOf Tryz.f15) [.agg (cG k p a b c), .agg (cG k' p' a' b' c')] H =
    .callB 38 [.slice 5 [cG k p a b c] .full, .slice 5 [cG k' p' a' b' c'] .full] H fun z H => .ret (retB z H) := by kernel_rfl
theorem ref_15 (H : Heap) (x y : Nd) (hx : x.wt 79) (hy : y.wt 79) : tev 15 [.agg x.row, .agg y.row] .none H = some (retB (dq x.key y.key) H) := by
  have h := one_refs H 79 (by decide) x y hx hy
  obtain ⟨k, p, a, b, c, rfl, _⟩ := inv_79 hx
  obtain ⟨k', p', a', b', c', rfl, _⟩ := inv_79 hy
  rw [row_79, row_79] at h ⊢
  exact ev_tree (sh := sh0) (rs := rs0) rfl Tryz.func15 b15 (t15 k k' _ _ _ _ _ _ _ _ H) (wp_callB h rfl)

theorem same_one (H : Heap) (x : Nd) : Pn H x := same_all H (SizeOf.sizeOf x + 1) x (by omega)

theorem b3 : Tryz.f3.body = some (bodyOf Tryz.f3) := by kernel_rfl
theorem t3 (s u : List (List AV)) (k o m k' o' m' : Int) (p a b c d p' a' b' c' d' : List (List AV)) : kbody Tryz.prog cfg0 sh0 rs0 3 Tryz.f3 (bodyOf Tryz.f3) [.slice 9 s .no, .slice 9 u .no, .agg (cE k o m p a b c d), .agg (cE k' o' m' p' a' b' c' d')] [] =
    .callB 7 [.slice 9 s .no, .slice 9 u .no] [] fun b1 H => .callB 8 [.slice 9 s .no, .slice 9 u .no] H fun b2 H =>
      .branch (b1 == b2) (.callB 9 [.agg (cE k o m p a b c d), .agg (cE k' o' m' p' a' b' c' d')] H fun b3 H => .callB 10 [.agg (cE k o m p a b c d), .agg (cE k' o' m' p' a' b' c' d')] H fun b4 H =>
        .branch (b3 == b4) (.callB 7 [.slice 9 s .no, .slice 9 s .no] H fun b5 H => .branch b5 (.callB 11 [] H fun z H => .ret (retB z H)) (.ret (retB false H))) (.ret (retB false H))) (.ret (retB false H)) := by kernel_rfl
theorem law3 (s u : List Nd) (x y : Nd) (fs : Few s) (fu : Few u) (ws : Nd.wts s 53) (wu : Nd.wts u 53) (hx : x.wt 47) (hy : y.wt 47) :
    ∃ H, tev 3 [.slice 9 (Nd.rows s) .no, .slice 9 (Nd.rows u) .no, .agg x.row, .agg y.row] .none [] = some (retB true H) := by
  obtain ⟨mm, H', ha⟩ := alive_11
  refine ⟨H', ?_⟩
  have e1 := same_12 [] s u fs ws wu
  have e2 := ref_8 [] s u fs ws wu
  have e3 : tev 9 [.agg x.row, .agg y.row] .none [] = some (retB (dq x.key y.key) []) := same_one [] x 47 (by decide) hx y hy
  have e4 := ref_10 [] x y hx hy
  have e5 := same_12 [] s s fs ws ws
  rw [show dq (Nd.keys s) (Nd.keys s) = true from dq_iff.2 rfl] at e5
  generalize dq (Nd.keys s) (Nd.keys u) = p1 at e1 e2
  generalize dq x.key y.key = p2 at e3 e4
  obtain ⟨k, o, m, p, a, b, c, d, rfl, _⟩ := inv_47 hx
  obtain ⟨k', o', m', p', a', b', c', d', rfl, _⟩ := inv_47 hy
  rw [row_47, row_47] at e3 e4 ⊢
  refine ev_tree (sh := sh0) (rs := rs0) rfl Tryz.func3 b3 (t3 (Nd.rows s) (Nd.rows u) k o m k' o' m' _ _ _ _ _ _ _ _ _ _) ?_
  refine wp_callB e1 (wp_callB e2 (wp_if (fun _ => ?_) (fun h => by cases p1 <;> cases h)))
  refine wp_callB e3 (wp_callB e4 (wp_if (fun _ => ?_) (fun h => by cases p2 <;> cases h)))
  exact wp_callB e5 (wp_if (fun _ => ⟨true, _, H', ha, rfl⟩) (fun h => by cases h))

theorem b4 : Tryz.f4.body = some (bodyOf Tryz.f4) := by kernel_rfl
theorem t4 (k k' l l' : Int) (p a b c p' a' b' c' q d e f q' d' e' f' : List (List AV)) : kbody Tryz.prog cfg0 sh0 rs0 4 Tryz.f4 (bodyOf Tryz.f4) [.agg (cM k p a b c), .agg (cM k' p' a' b' c'), .agg (cG l q d e f), .agg (cG l' q' d' e' f')] [] =
    .callB 12 [.agg (cM k p a b c), .agg (cM k' p' a' b' c')] [] fun b1 H => .callB 13 [.agg (cM k p a b c), .agg (cM k' p' a' b' c')] H fun b2 H =>
      .branch (b1 == b2) (.callB 14 [.agg (cG l q d e f), .agg (cG l' q' d' e' f')] H fun b3 H => .callB 15 [.agg (cG l q d e f), .agg (cG l' q' d' e' f')] H fun b4 H =>
        .branch (b3 == b4) (.callB 11 [] H fun z H => .ret (retB z H)) (.ret (retB false H))) (.ret (retB false H)) := by kernel_rfl
theorem law4 (x y u v : Nd) (hx : x.wt 74) (hy : y.wt 74) (hu : u.wt 79) (hv : v.wt 79) : ∃ H, tev 4 [.agg x.row, .agg y.row, .agg u.row, .agg v.row] .none [] = some (retB true H) := by
  obtain ⟨mm, H', ha⟩ := alive_11
  refine ⟨H', ?_⟩
  have e1 : tev 12 [.agg x.row, .agg y.row] .none [] = some (retB (dq x.key y.key) []) := same_one [] x 74 (by decide) hx y hy
  have e2 := ref_13 [] x y hx hy
  have e3 : tev 14 [.agg u.row, .agg v.row] .none [] = some (retB (dq u.key v.key) []) := same_one [] u 79 (by decide) hu v hv
  have e4 := ref_15 [] u v hu hv
  generalize dq x.key y.key = p1 at e1 e2
  generalize dq u.key v.key = p2 at e3 e4
  obtain ⟨k, p, a, b, c, rfl, _⟩ := inv_74 hx
  obtain ⟨k', p', a', b', c', rfl, _⟩ := inv_74 hy
  obtain ⟨l, q, d, e, f, rfl, _⟩ := inv_79 hu
  obtain ⟨l', q', d', e', f', rfl, _⟩ := inv_79 hv
  rw [row_74, row_74] at e1 e2
  rw [row_79, row_79] at e3 e4
  rw [row_74, row_74, row_79, row_79]
  refine ev_tree (sh := sh0) (rs := rs0) rfl Tryz.func4 b4 (t4 k k' l l' _ _ _ _ _ _ _ _ _ _ _ _ _ _ _ _) ?_
  refine wp_callB e1 (wp_callB e2 (wp_if (fun _ => ?_) (fun h => by cases p1 <;> cases h)))
  refine wp_callB e3 (wp_callB e4 (wp_if (fun _ => ?_) (fun h => by cases p2 <;> cases h)))
  exact ⟨true, _, H', ha, rfl⟩
end Go.Proofs
