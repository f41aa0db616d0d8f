/- LEX: the contracts of the library's functions hold (the shelf's, laid in S3) -/
import Derived.Test.YtnohjjhgdkpgcaaDoorS3
import Derived.Test.YtnohjjhgdkpgcaaDoorTC
import Derived.Lib.AtoiErrMem
open Go Go.Eng
namespace Go.Proofs
open Go.RowKit
set_option linter.unusedVariables false

/-- strconv.ErrRange holds something. -/
def ErrCell (W : World) : Prop := ∃ te pe, W.cell? ⟨1, 0, none⟩ = some (.iface te pe)

theorem psound {W : World} (hW : ErrCell W) : PSound Pg (memOf W) gx where
  sound := by
    intro f e hf args v hv I μ w cargs hI himm hr
    unfold gx extL at hf
    simp only [List.lookup] at hf
    split at hf
    · rename_i hb
      injection hf with hf; subst hf
      rw [beq_iff_eq] at hb; subst hb
      unfold xIndexByte at hv
      split at hv
      · rename_i s c
        split at hv
        · injection hv with hv; subst hv
          cases hr with
          | val v1 h1 => cases h1 with
            | val v2 h2 => cases h2; exact (Tryd.strings_IndexByte s c w).mono fun e' w' ⟨h1, h2⟩ => ⟨_, h1, .val _ .nil, (fun _ _ h => by cases h), (by rw [h2]; exact Below.refl _ _)⟩
        · cases hv
      · cases hv
    · split at hf
      · rename_i hb
        injection hf with hf; subst hf
        rw [beq_iff_eq] at hb; subst hb
        unfold xParseInt at hv
        split at hv
        · rename_i s
          split at hv
          · rename_i hsz
            cases hr with
            | val v1 h1 => cases h1 with
              | val v2 h2 => cases h2 with
                | val v3 h3 =>
                  cases h3
                  split at hv
                  · rename_i n hp
                    injection hv with hv; subst hv
                    refine (Tryd.strconv_ParseInt_10_at64_ok s (by omega) n hp w).mono ?_
                    rintro e' w' ⟨h1, h2⟩
                    refine ⟨_, h1, .tuple _ _ (.val _ (.val _ .nil)) .nil, (fun _ _ h => by cases h), ?_⟩
                    rcases h2 with rfl | ⟨t, rfl⟩
                    · exact Below.refl _ _
                    · exact Lib.bytesWorld_below w 5 t
                  · rename_i hp
                    injection hv with hv; subst hv
                    obtain ⟨te, pe, hc⟩ := hW
                    have hc2 := (himm 1 0 _ (hI 1 0 _ (memOf_at hc rfl))).1
                    refine (Tryd.strconv_ParseInt_10_at64_range s hsz hp _ w hc2 (.inr ⟨_, _, rfl⟩)).mono ?_
                    rintro e' w' ⟨N, h1, h2, h3, h4⟩
                    exact ⟨_, h1, .tuple _ _ (.val _ (.iface _ _ _ (.any _ .nil) .nil)) .nil, (fun _ _ h => by cases h), h4⟩
                  · cases hv
          · cases hv
        · cases hv
      · split at hf
        · rename_i hb
          injection hf with hf; subst hf
          rw [beq_iff_eq] at hb; subst hb
          unfold xJoin at hv
          split at hv
          · rename_i sz rows own sep
            split at hv
            · rename_i xs hx
              split at hv
              · rename_i hl
                injection hv with hv; subst hv
                cases cargs with
                | nil => cases hr
                | cons c1 cargs =>
                  obtain ⟨r1, r2⟩ := hr.uncons
                  cases r2 with
                  | val v2 h2 =>
                    cases h2
                    have hnil : rows = [] → xs = [] := fun h => by subst h; simp [strsOf] at hx; exact hx
                    rcases slice_inv r1 with ⟨h, rfl⟩ | ⟨b, o, cap, ws, rfl, hra, hrl, hln, hcap, _⟩ | ⟨h, a, cap, rfl, _⟩
                    · have := hnil h
                      subst this
                      exact (Tryd.strings_Join_none none 0 sep w).mono fun e' w' ⟨h1, h2⟩ => ⟨_, h1, .val _ .nil, (fun _ _ h => by cases h), (by rw [h2]; exact Below.refl _ _)⟩
                    · obtain ⟨q1, q2⟩ := strsOf_cells hx hrl
                      cases xs with
                      | nil =>
                        have : rows.length = 0 := by rw [q2]; rfl
                        rw [this]
                        exact (Tryd.strings_Join_none _ cap sep w).mono fun e' w' ⟨h1, h2⟩ => ⟨_, h1, .val _ .nil, (fun _ _ h => by cases h), (by rw [h2]; exact Below.refl _ _)⟩
                      | cons x xs =>
                        have hcell : ∀ (j : Nat) y, (x :: xs)[j]? = some y → w.cell? ⟨b, o + j, none⟩ = some (.string y) := fun j y hy => (himm _ _ _ (hra j (.string y) (by rw [q1, List.getElem?_map, hy]; rfl))).1
                        have hbk : b < w.heap.size := himm.lt (hra 0 (.string x) (by rw [q1]; rfl))
                        rw [q2]
                        exact (Tryd.strings_Join b o cap (x :: xs) sep w hcell hbk hl.1 (by omega) hl.2).mono fun e' w' ⟨h1, h2⟩ => ⟨_, h1, .val _ .nil, (fun _ _ h => by cases h), h2⟩
                    · have := hnil h
                      subst this
                      exact (Tryd.strings_Join_none _ cap sep w).mono fun e' w' ⟨h1, h2⟩ => ⟨_, h1, .val _ .nil, (fun _ _ h => by cases h), (by rw [h2]; exact Below.refl _ _)⟩
              · cases hv
            · cases hv
          · cases hv
        · cases hf
  ren := by
    intro f e hf args v hv ρ
    unfold gx extL at hf
    simp only [List.lookup] at hf
    split at hf
    · injection hf with hf; subst hf
      unfold xIndexByte at hv
      split at hv
      · split at hv
        · rename_i hc
          injection hv with hv; subst hv
          simp only [List.map_cons, List.map_nil, AV.ren, xIndexByte, if_pos hc]
        · cases hv
      · cases hv
    · split at hf
      · injection hf with hf; subst hf
        unfold xParseInt at hv
        split at hv
        · split at hv
          · rename_i hsz
            simp only [List.map_cons, List.map_nil, AV.ren, xParseInt, if_pos hsz]
            split at hv
            · rename_i hp; injection hv with hv; subst hv; rfl
            · rename_i hp; injection hv with hv; subst hv; rfl
            · cases hv
          · cases hv
        · cases hv
      · split at hf
        · injection hf with hf; subst hf
          unfold xJoin at hv
          split at hv
          · split at hv
            · rename_i xs hx
              split at hv
              · rename_i hl
                injection hv with hv; subst hv
                simp only [List.map_cons, List.map_nil, AV.ren, xJoin, strsOf_ren ρ hx, if_pos hl]
              · cases hv
            · cases hv
          · cases hv
        · cases hf
theorem body_of {i : Nat} (h : ((Pg.funcs[i]?).bind (·.body)).isSome = true) : ∃ (fn : Func) (c : Code), Pg.funcs[i]? = some fn ∧ fn.body = some c := by
  cases hf : Pg.funcs[i]? with
  | none => rw [hf] at h; cases h
  | some fn =>
    rw [hf] at h
    cases hb : fn.body with
    | none => simp [hb] at h
    | some c => exact ⟨fn, c, rfl, hb⟩
theorem extb : ∀ (f : FuncId) e, gx.ext f = some e → ∃ (fn : Func) (c : Code), Pg.funcs[f]? = some fn ∧ fn.body = some c := by
  intro f e h
  unfold PExt.ext gx extL at h
  simp only [List.lookup] at h
  split at h
  · rename_i hb; rw [beq_iff_eq] at hb; subst hb; exact body_of (by kernel_rfl)
  · split at h
    · rename_i hb; rw [beq_iff_eq] at hb; subst hb; exact body_of (by kernel_rfl)
    · split at h
      · rename_i hb; rw [beq_iff_eq] at hb; subst hb; exact body_of (by kernel_rfl)
      · cases h
theorem hng0 : (Pg.funcs.toList.all fun fn => !(fn.name == "runtime.NumGoroutine")) = true := by kernel_rfl
theorem mix0 : Pg.follows .mixedOrders = true := by kernel_rfl
/-- What is told of a function the model's call does. -/
theorem evp_calls {f : FuncId} {args : List AV} {W : World} {cargs : Array Value} {v : Value} {m : RM} {H' : Heap} (hW : ErrCell W) (h : evp f args .none [] = some ⟨.ret (.val v), m, H'⟩)
    (hr : RepL (memOf W) [] cargs.toList args) (hno : ∀ a ∈ args, NoOwn a) : Calls Pg f cargs W fun e W' => e = .returned v ∧ Below W.heap.size W W' :=
  ev_calls mix0 hng0 h (psound hW).ext extb (LeM.refl _) hr hno
end Go.Proofs
