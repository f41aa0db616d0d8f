import Derived.Test.YtjallencclngiaaK18
import Derived.Test.YtjallencclngiaaK23
open Go Go.Eng
namespace Go.Proofs
set_option maxRecDepth 100000
set_option linter.unusedVariables false

theorem b4 : Try.f4.body = some (bodyOf Try.f4) := by kernel_rfl
theorem t4 (a b c : List (List AV)) : kbody Try.prog cfg0 sh0 rs0 4 Try.f4 (bodyOf Try.f4) [.slice 9 a .no, .slice 9 b .no, .slice 9 c .no] [] =
    .callB 12 [.slice 9 a .no, .slice 9 b .no] [] fun x1 H => .callB 12 [.slice 9 b .no, .slice 9 a .no] H fun x2 H =>
      .branch (!(x1 == x2)) (.ret (retB false H)) (.callB 12 [.slice 9 a .no, .slice 9 b .no] H fun x3 H =>
        .branch x3 (.callB 12 [.slice 9 b .no, .slice 9 c .no] H fun x4 H =>
          .branch x4 (.callB 12 [.slice 9 a .no, .slice 9 c .no] H fun x5 H =>
            .branch (!x5) (.ret (retB false H)) (.callB 11 [] H fun z H => .ret (retB z H)))
            (.callB 11 [] H fun z H => .ret (retB z H)))
          (.callB 11 [] H fun z H => .ret (retB z H))) := by kernel_rfl

theorem law4 (a b c : List Nd) (fa : Few a) (fb : Few b) (fc : Few c) (wa : Nd.wts a 53) (wb : Nd.wts b 53) (wc : Nd.wts c 53) :
    ∃ H, tev 4 [.slice 9 (Nd.rows a) .no, .slice 9 (Nd.rows b) .no, .slice 9 (Nd.rows c) .no] .none [] = some (retB true H) := by
  obtain ⟨m, H', ha⟩ := alive_11
  refine ⟨H', ?_⟩
  have q1 := same_12 [] a b fa wa wb
  have q2 := same_12 [] b a fb wb wa
  have q3 := same_12 [] b c fb wb wc
  have q4 := same_12 [] a c fa wa wc
  refine ev_tree (sh := sh0) (rs := rs0) rfl Try.func4 b4 (t4 (Nd.rows a) (Nd.rows b) (Nd.rows c)) ?_
  have al : (Tr.callB 11 [] [] fun z H => .ret (retB z H)).wp tev (fun _ _ => False) (fun r' => r' = retB true H') := ⟨true, _, H', ha, rfl⟩
  have sym : dq (Nd.keys b) (Nd.keys a) = dq (Nd.keys a) (Nd.keys b) := by rw [Bool.eq_iff_iff, dq_iff, dq_iff]; exact ⟨Eq.symm, Eq.symm⟩
  rw [sym] at q2
  refine wp_callB q1 (wp_callB q2 (wp_if (fun h => ?_) (fun _ => ?_)))
  · simp at h
  refine wp_callB q1 (wp_if (fun h1 => ?_) (fun _ => al))
  refine wp_callB q3 (wp_if (fun h2 => ?_) (fun _ => al))
  refine wp_callB q4 (wp_if (fun h3 => ?_) (fun _ => al))
  rw [dq_iff] at h1 h2
  have : dq (Nd.keys a) (Nd.keys c) = true := dq_iff.2 (h1.trans h2)
  rw [this] at h3; cases h3
end Go.Proofs
