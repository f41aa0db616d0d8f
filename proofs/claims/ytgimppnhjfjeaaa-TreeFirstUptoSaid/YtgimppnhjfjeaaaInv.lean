/- the nodes' types: what plain data of them looks like -/
import Derived.Test.YtgimppnhjfjeaaaW1
import Derived.Test.YtgimppnhjfjeaaaTC
open Go Go.Eng
namespace Go.Proofs
set_option linter.unusedVariables false
set_option maxRecDepth 100000
theorem u_int : Pg.underlying y_int = some (.int .i64) := by kernel_rfl
theorem u_int64 : Pg.underlying y_int64 = some (.int .i64) := by kernel_rfl
theorem u_string : Pg.underlying y_string = some .string := by kernel_rfl
theorem u_s_string : Pg.underlying y_s_string = some (.slice y_string) := by kernel_rfl
theorem c_string : Pg.cellsOf y_string = 1 := by kernel_rfl
theorem inv_string {r : Row} (h : Has Pg y_string r) : ∃ s, r = [.str s] ∧ s.size ≤ maxLen := h.str_inv u_string
theorem u_s_Ty : Pg.underlying y_s_api_Ty = some (.slice y_api_Ty) := by kernel_rfl
theorem c_Ty : Pg.cellsOf y_api_Ty = 4 := by kernel_rfl
theorem u_s_Pat : Pg.underlying y_s_api_Pat = some (.slice y_api_Pat) := by kernel_rfl
theorem c_Pat : Pg.cellsOf y_api_Pat = 5 := by kernel_rfl
theorem u_s_Exp : Pg.underlying y_s_api_Exp = some (.slice y_api_Exp) := by kernel_rfl
theorem c_Exp : Pg.cellsOf y_api_Exp = 8 := by kernel_rfl
theorem u_s_Con : Pg.underlying y_s_api_Con = some (.slice y_api_Con) := by kernel_rfl
theorem c_Con : Pg.cellsOf y_api_Con = 2 := by kernel_rfl
theorem u_s_Dec : Pg.underlying y_s_api_Dec = some (.slice y_api_Dec) := by kernel_rfl
theorem c_Dec : Pg.cellsOf y_api_Dec = 9 := by kernel_rfl
theorem u_s_Mod : Pg.underlying y_s_api_Mod = some (.slice y_api_Mod) := by kernel_rfl
theorem c_Mod : Pg.cellsOf y_api_Mod = 5 := by kernel_rfl
theorem u_s_Sig : Pg.underlying y_s_api_Sig = some (.slice y_api_Sig) := by kernel_rfl
theorem c_Sig : Pg.cellsOf y_api_Sig = 5 := by kernel_rfl
theorem u_s_Spec : Pg.underlying y_s_api_Spec = some (.slice y_api_Spec) := by kernel_rfl
theorem c_Spec : Pg.cellsOf y_api_Spec = 6 := by kernel_rfl
theorem s_Ty : structTys Pg y_api_Ty = some [y_int, y_string, y_s_string, y_s_api_Ty] := by kernel_rfl
theorem inv_Ty {r : Row} (h : Has Pg y_api_Ty r) : ∃ (k : Int) (n : ByteArray) (p : List Row) (a : List Row), r = [.int .i64 k, .str n, .rows 1 p, .rows 4 a] ∧ (∀ x ∈ p, Has Pg y_string x) ∧ (∀ x ∈ a, Has Pg y_api_Ty x) := by
  have h := h.fields s_Ty
  obtain ⟨k, r, rfl, w_k, h⟩ := h.int u_int
  obtain ⟨n, r, rfl, w_n, h⟩ := h.str u_string
  obtain ⟨p, r, rfl, l_p, f_p, h⟩ := h.slice u_s_string 1 c_string
  obtain ⟨a, r, rfl, l_a, f_a, h⟩ := h.slice u_s_Ty 4 c_Ty
  obtain rfl := h.nil_inv
  exact ⟨k, n, p, a, rfl, f_p, f_a⟩
theorem s_Pat : structTys Pg y_api_Pat = some [y_int, y_string, y_s_string, y_int64, y_s_api_Pat] := by kernel_rfl
theorem inv_Pat {r : Row} (h : Has Pg y_api_Pat r) : ∃ (k : Int) (n : ByteArray) (p : List Row) (m : Int) (a : List Row), r = [.int .i64 k, .str n, .rows 1 p, .int .i64 m, .rows 5 a] ∧ (∀ x ∈ p, Has Pg y_string x) ∧ (∀ x ∈ a, Has Pg y_api_Pat x) := by
  have h := h.fields s_Pat
  obtain ⟨k, r, rfl, w_k, h⟩ := h.int u_int
  obtain ⟨n, r, rfl, w_n, h⟩ := h.str u_string
  obtain ⟨p, r, rfl, l_p, f_p, h⟩ := h.slice u_s_string 1 c_string
  obtain ⟨m, r, rfl, w_m, h⟩ := h.int u_int64
  obtain ⟨a, r, rfl, l_a, f_a, h⟩ := h.slice u_s_Pat 5 c_Pat
  obtain rfl := h.nil_inv
  exact ⟨k, n, p, m, a, rfl, f_p, f_a⟩
theorem s_Exp : structTys Pg y_api_Exp = some [y_int, y_int, y_int64, y_s_string, y_s_api_Pat, y_s_api_Exp, y_s_api_Dec, y_s_api_Ty] := by kernel_rfl
theorem inv_Exp {r : Row} (h : Has Pg y_api_Exp r) : ∃ (k : Int) (o : Int) (m : Int) (p : List Row) (a : List Row) (b : List Row) (c : List Row) (d : List Row), r = [.int .i64 k, .int .i64 o, .int .i64 m, .rows 1 p, .rows 5 a, .rows 8 b, .rows 9 c, .rows 4 d] ∧ (∀ x ∈ p, Has Pg y_string x) ∧ (∀ x ∈ a, Has Pg y_api_Pat x) ∧ (∀ x ∈ b, Has Pg y_api_Exp x) ∧ (∀ x ∈ c, Has Pg y_api_Dec x) ∧ (∀ x ∈ d, Has Pg y_api_Ty x) := by
  have h := h.fields s_Exp
  obtain ⟨k, r, rfl, w_k, h⟩ := h.int u_int
  obtain ⟨o, r, rfl, w_o, h⟩ := h.int u_int
  obtain ⟨m, r, rfl, w_m, h⟩ := h.int u_int64
  obtain ⟨p, r, rfl, l_p, f_p, h⟩ := h.slice u_s_string 1 c_string
  obtain ⟨a, r, rfl, l_a, f_a, h⟩ := h.slice u_s_Pat 5 c_Pat
  obtain ⟨b, r, rfl, l_b, f_b, h⟩ := h.slice u_s_Exp 8 c_Exp
  obtain ⟨c, r, rfl, l_c, f_c, h⟩ := h.slice u_s_Dec 9 c_Dec
  obtain ⟨d, r, rfl, l_d, f_d, h⟩ := h.slice u_s_Ty 4 c_Ty
  obtain rfl := h.nil_inv
  exact ⟨k, o, m, p, a, b, c, d, rfl, f_p, f_a, f_b, f_c, f_d⟩
theorem s_Con : structTys Pg y_api_Con = some [y_string, y_s_api_Ty] := by kernel_rfl
theorem inv_Con {r : Row} (h : Has Pg y_api_Con r) : ∃ (n : ByteArray) (a : List Row), r = [.str n, .rows 4 a] ∧ (∀ x ∈ a, Has Pg y_api_Ty x) := by
  have h := h.fields s_Con
  obtain ⟨n, r, rfl, w_n, h⟩ := h.str u_string
  obtain ⟨a, r, rfl, l_a, f_a, h⟩ := h.slice u_s_Ty 4 c_Ty
  obtain rfl := h.nil_inv
  exact ⟨n, a, rfl, f_a⟩
theorem s_Dec : structTys Pg y_api_Dec = some [y_int, y_int, y_string, y_s_string, y_s_api_Ty, y_s_api_Exp, y_s_api_Con, y_s_api_Mod, y_s_api_Sig] := by kernel_rfl
theorem inv_Dec {r : Row} (h : Has Pg y_api_Dec r) : ∃ (k : Int) (o : Int) (n : ByteArray) (p : List Row) (a : List Row) (b : List Row) (c : List Row) (d : List Row) (e : List Row), r = [.int .i64 k, .int .i64 o, .str n, .rows 1 p, .rows 4 a, .rows 8 b, .rows 2 c, .rows 5 d, .rows 5 e] ∧ (∀ x ∈ p, Has Pg y_string x) ∧ (∀ x ∈ a, Has Pg y_api_Ty x) ∧ (∀ x ∈ b, Has Pg y_api_Exp x) ∧ (∀ x ∈ c, Has Pg y_api_Con x) ∧ (∀ x ∈ d, Has Pg y_api_Mod x) ∧ (∀ x ∈ e, Has Pg y_api_Sig x) := by
  have h := h.fields s_Dec
  obtain ⟨k, r, rfl, w_k, h⟩ := h.int u_int
  obtain ⟨o, r, rfl, w_o, h⟩ := h.int u_int
  obtain ⟨n, r, rfl, w_n, h⟩ := h.str u_string
  obtain ⟨p, r, rfl, l_p, f_p, h⟩ := h.slice u_s_string 1 c_string
  obtain ⟨a, r, rfl, l_a, f_a, h⟩ := h.slice u_s_Ty 4 c_Ty
  obtain ⟨b, r, rfl, l_b, f_b, h⟩ := h.slice u_s_Exp 8 c_Exp
  obtain ⟨c, r, rfl, l_c, f_c, h⟩ := h.slice u_s_Con 2 c_Con
  obtain ⟨d, r, rfl, l_d, f_d, h⟩ := h.slice u_s_Mod 5 c_Mod
  obtain ⟨e, r, rfl, l_e, f_e, h⟩ := h.slice u_s_Sig 5 c_Sig
  obtain rfl := h.nil_inv
  exact ⟨k, o, n, p, a, b, c, d, e, rfl, f_p, f_a, f_b, f_c, f_d, f_e⟩
theorem s_Mod : structTys Pg y_api_Mod = some [y_int, y_s_string, y_s_api_Dec, y_s_api_Mod, y_s_api_Sig] := by kernel_rfl
theorem inv_Mod {r : Row} (h : Has Pg y_api_Mod r) : ∃ (k : Int) (p : List Row) (a : List Row) (b : List Row) (c : List Row), r = [.int .i64 k, .rows 1 p, .rows 9 a, .rows 5 b, .rows 5 c] ∧ (∀ x ∈ p, Has Pg y_string x) ∧ (∀ x ∈ a, Has Pg y_api_Dec x) ∧ (∀ x ∈ b, Has Pg y_api_Mod x) ∧ (∀ x ∈ c, Has Pg y_api_Sig x) := by
  have h := h.fields s_Mod
  obtain ⟨k, r, rfl, w_k, h⟩ := h.int u_int
  obtain ⟨p, r, rfl, l_p, f_p, h⟩ := h.slice u_s_string 1 c_string
  obtain ⟨a, r, rfl, l_a, f_a, h⟩ := h.slice u_s_Dec 9 c_Dec
  obtain ⟨b, r, rfl, l_b, f_b, h⟩ := h.slice u_s_Mod 5 c_Mod
  obtain ⟨c, r, rfl, l_c, f_c, h⟩ := h.slice u_s_Sig 5 c_Sig
  obtain rfl := h.nil_inv
  exact ⟨k, p, a, b, c, rfl, f_p, f_a, f_b, f_c⟩
theorem s_Sig : structTys Pg y_api_Sig = some [y_int, y_s_string, y_s_api_Spec, y_s_api_Sig, y_s_api_Ty] := by kernel_rfl
theorem inv_Sig {r : Row} (h : Has Pg y_api_Sig r) : ∃ (k : Int) (p : List Row) (a : List Row) (b : List Row) (c : List Row), r = [.int .i64 k, .rows 1 p, .rows 6 a, .rows 5 b, .rows 4 c] ∧ (∀ x ∈ p, Has Pg y_string x) ∧ (∀ x ∈ a, Has Pg y_api_Spec x) ∧ (∀ x ∈ b, Has Pg y_api_Sig x) ∧ (∀ x ∈ c, Has Pg y_api_Ty x) := by
  have h := h.fields s_Sig
  obtain ⟨k, r, rfl, w_k, h⟩ := h.int u_int
  obtain ⟨p, r, rfl, l_p, f_p, h⟩ := h.slice u_s_string 1 c_string
  obtain ⟨a, r, rfl, l_a, f_a, h⟩ := h.slice u_s_Spec 6 c_Spec
  obtain ⟨b, r, rfl, l_b, f_b, h⟩ := h.slice u_s_Sig 5 c_Sig
  obtain ⟨c, r, rfl, l_c, f_c, h⟩ := h.slice u_s_Ty 4 c_Ty
  obtain rfl := h.nil_inv
  exact ⟨k, p, a, b, c, rfl, f_p, f_a, f_b, f_c⟩
theorem s_Spec : structTys Pg y_api_Spec = some [y_int, y_int, y_string, y_s_api_Ty, y_s_api_Con, y_s_api_Sig] := by kernel_rfl
theorem inv_Spec {r : Row} (h : Has Pg y_api_Spec r) : ∃ (k : Int) (o : Int) (n : ByteArray) (a : List Row) (b : List Row) (c : List Row), r = [.int .i64 k, .int .i64 o, .str n, .rows 4 a, .rows 2 b, .rows 5 c] ∧ (∀ x ∈ a, Has Pg y_api_Ty x) ∧ (∀ x ∈ b, Has Pg y_api_Con x) ∧ (∀ x ∈ c, Has Pg y_api_Sig x) := by
  have h := h.fields s_Spec
  obtain ⟨k, r, rfl, w_k, h⟩ := h.int u_int
  obtain ⟨o, r, rfl, w_o, h⟩ := h.int u_int
  obtain ⟨n, r, rfl, w_n, h⟩ := h.str u_string
  obtain ⟨a, r, rfl, l_a, f_a, h⟩ := h.slice u_s_Ty 4 c_Ty
  obtain ⟨b, r, rfl, l_b, f_b, h⟩ := h.slice u_s_Con 2 c_Con
  obtain ⟨c, r, rfl, l_c, f_c, h⟩ := h.slice u_s_Sig 5 c_Sig
  obtain rfl := h.nil_inv
  exact ⟨k, o, n, a, b, c, rfl, f_a, f_b, f_c⟩
theorem ne_Ty {r : Row} (h : Has Pg y_api_Ty r) : r ≠ [] := by
  obtain ⟨_, _, _, _, rfl, _⟩ := inv_Ty h
  simp
theorem ne_Pat {r : Row} (h : Has Pg y_api_Pat r) : r ≠ [] := by
  obtain ⟨_, _, _, _, _, rfl, _⟩ := inv_Pat h
  simp
theorem ne_Exp {r : Row} (h : Has Pg y_api_Exp r) : r ≠ [] := by
  obtain ⟨_, _, _, _, _, _, _, _, rfl, _⟩ := inv_Exp h
  simp
theorem ne_Con {r : Row} (h : Has Pg y_api_Con r) : r ≠ [] := by
  obtain ⟨_, _, rfl, _⟩ := inv_Con h
  simp
theorem ne_Dec {r : Row} (h : Has Pg y_api_Dec r) : r ≠ [] := by
  obtain ⟨_, _, _, _, _, _, _, _, _, rfl, _⟩ := inv_Dec h
  simp
theorem ne_Mod {r : Row} (h : Has Pg y_api_Mod r) : r ≠ [] := by
  obtain ⟨_, _, _, _, _, rfl, _⟩ := inv_Mod h
  simp
theorem ne_Sig {r : Row} (h : Has Pg y_api_Sig r) : r ≠ [] := by
  obtain ⟨_, _, _, _, _, rfl, _⟩ := inv_Sig h
  simp
theorem ne_Spec {r : Row} (h : Has Pg y_api_Spec r) : r ≠ [] := by
  obtain ⟨_, _, _, _, _, _, rfl, _⟩ := inv_Spec h
  simp
end Go.Proofs
