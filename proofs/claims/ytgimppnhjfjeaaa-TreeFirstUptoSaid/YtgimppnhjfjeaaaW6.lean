/- Right: which of declarations is not right, and its error: what it answers -/
import Derived.Test.YtgimppnhjfjeaaaW5
import Derived.Test.YtgimppnhjfjeaaaW3n
open Go Go.Eng
namespace Go.Proofs
set_option linter.unusedVariables false
set_option linter.unusedSimpArgs false
set_option maxRecDepth 100000
theorem drop_at {α : Type} {l : List α} {i : Nat} {x : α} (h : l[i]? = some x) : l.drop i = x :: l.drop (i + 1) := by
  obtain ⟨hi, rfl⟩ := List.getElem?_eq_some_iff.1 h
  exact List.drop_eq_getElem_cons hi
theorem z1 (l : List (List AV)) : (X_RightD l).T.T = Y_R1 l := by kernel_rfl
theorem z2 (l : List (List AV)) (i : Nat) (i1 : Int) : ((X_R1 l i).F.T.I i1).T.F.T = Y_R2 l i i1 := by kernel_rfl
theorem right_ok {l : List Row} (ht : ∀ r ∈ l, Has Pg y_api_Dec r) (hb : bulkss l < SMALL) : evp f_tree_Right [.slice 9 (avss l) .no] .none [] = some ⟨.ret (.tuple [vI (right l).1, vI (right l).2]), .none, []⟩ := by
  unfold SMALL at hb
  have hlen := len_cnts fun r hr => ne_Dec (ht r hr)
  have hcb := cnts_bulk' l
  have hn := nodes_ok ht (by unfold BIG; omega)
  refine ktc3_ev (wp_eq2 (X_RightD_eq (avss l)) ⟨low_avss 0 l, low_avss 0 l, ?_⟩)
  refine wp_eq2 (z1 (avss l)) ?_
  refine loop3 (fun i : Nat => ⟨tm2 44 [(0, (.slice 9 (avss l) .no)), (9, (.slice 9 (avss l) .no)), (10, (vI ((↑(avss l).length : Int)))), (11, (vI i))], lm2 44 [], ⟨[], [], .none, 0⟩⟩) (fun i => i ≤ l.length ∧ first deep 0 l = first deep i (l.drop i)) (fun i => l.length - i) 0 (by kernel_rfl) ⟨Nat.zero_le _, rfl⟩ ?_
  rintro i ⟨hi, hf⟩
  refine wp_eq2 (X_R1_eq (avss l) i) ?_
  rw [avss_len]
  refine wp_if2 (fun h => ?_) (fun h => ?_)
  · have h := of_decide_eq_true h
    obtain ⟨r, hr⟩ : ∃ r, l[i]? = some r := ⟨_, List.getElem?_eq_getElem (by omega : i < l.length)⟩
    have hm := List.mem_of_getElem? hr
    have htr := ht r hm
    have hw := decs_full (l := [r]) (by simpa using htr) 0 0 0 (by have := cnts_mem hm; simp only [cnts]; unfold BIG; omega) (by have := cnts_mem hm; simp only [cnts]; unfold BIG; omega)
    have hd : first deep 0 l = if deep r then some (i, r) else first deep (i + 1) (l.drop (i + 1)) := by rw [hf, drop_at hr, first]
    obtain ⟨xk, xo, xn, xp, xa, xb, xc, xd, xe, rfl, _⟩ := inv_Dec htr
    rw [kw_succ (x := i) (by omega)]
    refine ⟨xk, xo, xn, avss xp, avss xa, avss xb, avss xc, avss xd, avss xe, ⟨Int.natCast_nonneg i, avss_at hr⟩, _, _, _, hw, ?_⟩
    refine wp_if2 (fun h2 => ?_) (fun h2 => ?_)
    · refine wp_out ?_
      show _ = _
      have h2 := of_decide_eq_true h2
      have hdp : deep [.int .i64 xk, .int .i64 xo, .str xn, .rows 1 xp, .rows 4 xa, .rows 8 xb, .rows 2 xc, .rows 5 xd, .rows 5 xe] = true := by
        unfold deep; exact decide_eq_true (by omega)
      rw [hdp, if_pos rfl] at hd
      unfold right; rw [hd]
    · have h2 := of_decide_eq_false h2
      have hdp : deep [.int .i64 xk, .int .i64 xo, .str xn, .rows 1 xp, .rows 4 xa, .rows 8 xb, .rows 2 xc, .rows 5 xd, .rows 5 xe] = false := by
        unfold deep; exact decide_eq_false (by omega)
      rw [hdp] at hd
      exact ⟨low_avss 0 l, low_avss 0 l, i + 1, ⟨⟨by omega, hd⟩, by omega⟩, rfl⟩
  · have h := of_decide_eq_false h
    have hil : i = l.length := by omega
    subst hil
    have hf0 : first deep 0 l = none := by rw [hf, List.drop_length]; rfl
    refine wp_out ⟨_, hn, wp_if2 (fun h2 => ?_) (fun h2 => ⟨low_avss 0 l, ?_⟩)⟩
    · have h2 := of_decide_eq_true h2
      show _ = _
      unfold right; rw [hf0]; simp only
      rw [if_pos (by omega)]
    · have h2 := of_decide_eq_false h2
      refine wp_eq2 (z2 (avss l) l.length _) ?_
      have hr0 : right l = match first (fun r => derr r != 0) 0 l with
        | some (i, r) => ((i : Int), derr r)
        | none => (0, 0) := by
        unfold right; rw [hf0]; simp only
        rw [if_neg (by omega)]
        cases first (fun r => derr r != 0) 0 l <;> rfl
      refine loop3 (fun i : Nat => ⟨tm2 44 [(30, (.slice 9 (avss l) .no)), (31, (vI ((↑(avss l).length : Int)))), (32, (vI i))], lm2 44 [], ⟨[], [], .none, 0⟩⟩) (fun i => i ≤ l.length ∧ first (fun r => derr r != 0) 0 l = first (fun r => derr r != 0) i (l.drop i)) (fun i => l.length - i) 0 (by kernel_rfl) ⟨Nat.zero_le _, rfl⟩ ?_
      rintro j ⟨hj, hg⟩
      refine wp_eq2 (X_R2_eq (avss l) l.length _ j) ?_
      rw [avss_len]
      refine wp_if2 (fun h3 => ?_) (fun h3 => ?_)
      · have h3 := of_decide_eq_true h3
        obtain ⟨r, hr⟩ : ∃ r, l[j]? = some r := ⟨_, List.getElem?_eq_getElem (by omega : j < l.length)⟩
        have hm := List.mem_of_getElem? hr
        have htr := ht r hm
        have hbm := bulkss_mem hm
        have hdr := drop_at hr
        have hgr : first (fun r => derr r != 0) 0 l = if (derr r != 0) = true then some (j, r) else first (fun r => derr r != 0) (j + 1) (l.drop (j + 1)) := by rw [hg, hdr, first]
        have hda := fun K hk => dec_at (r := r) (K := K) htr (by unfold SMALL; omega) hk
        change ∀ K, _ → evp f_tree_dec [.agg (avs r)] .none K = some ⟨oc (derr r), .none, K⟩ at hda
        replace hda := hda [avs r, [vI 0]] (by rw [lowss, low_avs]; rfl)
        generalize hder : derr r = de at hda hgr
        obtain ⟨xk, xo, xn, xp, xa, xb, xc, xd, xe, rfl, _⟩ := inv_Dec htr
        rw [kw_succ (x := j) (by omega)]
        refine ⟨xk, xo, xn, avss xp, avss xa, avss xb, avss xc, avss xd, avss xe, ⟨Int.natCast_nonneg j, avss_at hr⟩, ?_⟩
        by_cases h0 : de = 0
        · subst h0
          simp only [bne_self_eq_false, Bool.false_eq_true, if_false] at hgr
          refine .inl ⟨hda, ?_⟩
          repeat' first
            | exact wp_done ⟨j + 1, ⟨⟨by omega, hgr⟩, by omega⟩, rfl⟩
            | exact absurd h (by decide)
            | refine ⟨low_avss _ _, ?_⟩
            | refine wp_need ?_
            | refine wp_if2 (fun h => ?_) (fun h => ?_)
        · have hne : (de != 0) = true := bne_iff_ne.2 h0
          rw [hne, if_pos rfl] at hgr
          unfold oc at hda
          rw [if_neg h0] at hda
          refine .inr ⟨de, hda, ?_⟩
          have hres : (⟨.ret (.tuple [vI (j : Nat), vI de]), .none, []⟩ : CRes) = ⟨.ret (.tuple [vI (right l).1, vI (right l).2]), .none, []⟩ := by
            rw [hr0, hgr]; simp only [hder]
          repeat' first
            | exact wp_out hres
            | exact absurd h (by decide)
            | exact absurd h (by rw [hne]; decide)
            | refine ⟨low_avss _ _, ?_⟩
            | refine wp_need ?_
            | refine wp_if2 (fun h => ?_) (fun h => ?_)
      · have h3 := of_decide_eq_false h3
        have hjl : j = l.length := by omega
        subst hjl
        refine wp_out ?_
        show _ = _
        rw [hr0, hg, List.drop_length]; rfl
end Go.Proofs
