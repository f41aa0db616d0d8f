import Derived.Test.YtjallencclngiaaK17
open Go Go.Eng
namespace Go.Proofs
set_option maxRecDepth 100000
set_option linter.unusedVariables false

def isTrue : Option CRes → Bool
  | some ⟨.ret (.val (.bool true)), _, _⟩ => true
  | _ => false
theorem alive_ok : isTrue (acall Try.prog cfg0 noext 100 11 [] .none []) = true := by kernel_rfl
theorem alive_11 : ∃ m H', tev 11 [] .none [] = some ⟨.ret (.val (.bool true)), m, H'⟩ := by
  have h := alive_ok
  unfold isTrue at h
  split at h
  · rename_i m H' e
    exact ⟨m, H', ev_iff.2 ⟨100, e⟩⟩
  · cases h

def cT (k : Int) (n : ByteArray) (p a : List (List AV)) : List AV := [.val (.int .i64 k), .val (.string n), .slice 1 p .no, .slice 4 a .no]
def cP (k : Int) (n : ByteArray) (p : List (List AV)) (m : Int) (a : List (List AV)) : List AV := [.val (.int .i64 k), .val (.string n), .slice 1 p .no, .val (.int .i64 m), .slice 5 a .no]

theorem b3 : Try.f3.body = some (bodyOf Try.f3) := by kernel_rfl
theorem t3 (k k' m m' l l' : Int) (n n' q q' : ByteArray) (p p' a a' r r' s s' : List (List AV)) : kbody Try.prog cfg0 sh0 rs0 3 Try.f3 (bodyOf Try.f3) [.agg (cP k n p m a), .agg (cP k' n' p' m' a'), .agg (cT l q r s), .agg (cT l' q' r' s')] [] =
    .callB 7 [.agg (cP k n p m a), .agg (cP k' n' p' m' a')] [] fun b1 H => .callB 8 [.agg (cP k n p m a), .agg (cP k' n' p' m' a')] H fun b2 H =>
      .branch (b1 == b2) (.callB 9 [.agg (cT l q r s), .agg (cT l' q' r' s')] H fun b3 H => .callB 10 [.agg (cT l q r s), .agg (cT l' q' r' s')] H fun b4 H =>
        .branch (b3 == b4) (.callB 11 [] H fun b5 H => .ret (retB b5 H)) (.ret (retB false H))) (.ret (retB false H)) := by kernel_rfl
end Go.Proofs
