import Derived.Test.YtajjoaphfeamiaaProg
import Derived.Test.YtajjoaphfeamiaaE30
import Derived.KernelRfl
open Go Go.Eng
namespace Go.Proofs
noncomputable abbrev Pg : Program := Try.prog
def cutB : Nat := 2 ^ cutBit
def cfgL : List FCfg := [⟨0, 0, 0, 0, [], false, false⟩,
  ⟨0, 0, 0, 0, [], false, false⟩,
  ⟨0, 0, 0, 0, [], false, false⟩,
  ⟨0, 0, 0, 0, [], false, false⟩,
  ⟨0, 0, 0, 0, [(1000004, 35)], false, false⟩,
  ⟨0, 0, 0, 0, [], false, false⟩,
  ⟨0, 0, 0, 0, [(0, 227), (1000008, 227)], false, false⟩,
  ⟨0, 0, 0, 0, [(1000003, 15)], false, false⟩,
  ⟨48, 704, 0, 0, [], false, false⟩,
  ⟨0, 0, 0, 0, [(0, 1798), (1000004, 262)], false, false⟩,
  ⟨0, 0, 0, 0, [], false, false⟩,
  ⟨0, 0, 0, 0, [(0, 35)], false, false⟩,
  ⟨0, 184, 0, 0, [], false, false⟩,
  ⟨0, 0, 0, 0, [(0, 451)], false, false⟩,
  ⟨0, 0, 0, 0, [(0, 35)], false, false⟩,
  ⟨0, 40, 1028, 0, [], false, false⟩,
  ⟨0, 0, 33619980, 0, [(0, 57)], false, false⟩,
  ⟨0, 0, 0, 0, [], false, false⟩,
  ⟨0, 0, 0, 0, [], false, false⟩,
  ⟨4, 0, 0, 0, [], false, false⟩,
  ⟨0, 0, 1207959680, 0, [(0, 448)], false, false⟩,
  ⟨0, 0, 0, 0, [(0, 35)], false, false⟩,
  ⟨2, 0, 0, 0, [], false, false⟩,
  ⟨0, 0, 0, 0, [], false, false⟩,
  ⟨0, 0, 0, 0, [], false, false⟩,
  ⟨0, 0, 4, 0, [], false, false⟩,
  ⟨8, 32, 0, 0, [], false, false⟩,
  ⟨0, 0, 0, 0, [(3, 896), (1000008, 3), (1000011, 65), (1000030, 129), (1000035, 385)], false, false⟩,
  ⟨0, 0, 0, 0, [(0, 27), (1000005, 59)], false, false⟩,
  ⟨0, 0, 0, 0, [], false, false⟩,
  ⟨0, 4, 272, 0, [], false, false⟩,
  ⟨0, 0, 0, 0, [], false, false⟩,
  ⟨0, 0, 0, 0, [], false, false⟩,
  ⟨0, 0, 0, 0, [(1000003, 3)], false, false⟩,
  ⟨0, 0, 4096, 0, [], false, false⟩,
  ⟨0, 0, 0, 0, [], false, false⟩,
  ⟨0, 0, 0, 0, [], false, false⟩,
  ⟨0, 0, 0, 0, [], false, false⟩,
  ⟨0, 0, 0, 0, [], false, false⟩,
  ⟨0, 0, 0, 0, [], false, false⟩,
  ⟨0, 0, 0, 0, [], false, false⟩,
  ⟨0, 0, 0, 0, [], false, false⟩,
  ⟨0, 0, 134217744, 0, [], false, false⟩,
  ⟨0, 0, 0, 0, [(1, 2019), (1000010, 35), (1000021, 2019), (1000023, 2019)], false, false⟩,
  ⟨0, 0, 0, 0, [], false, false⟩,
  ⟨0, 0, 0, 0, [], false, false⟩,
  ⟨0, 0, 0, 0, [], false, false⟩,
  ⟨0, 0, 0, 0, [], false, false⟩,
  ⟨0, 0, 0, 0, [], false, false⟩,
  ⟨0, 0, 0, 0, [(0, 995), (2, 1507), (1000010, 483)], false, false⟩,
  ⟨0, 0, 0, 0, [], false, false⟩,
  ⟨0, 0, 0, 0, [(0, 49), (2, 464), (1000012, 464)], false, false⟩,
  ⟨0, 0, 0, 0, [], false, false⟩,
  ⟨0, 0, 0, 0, [], false, false⟩,
  ⟨0, 0, 0, 0, [], false, false⟩,
  ⟨0, 0, 0, 0, [], false, false⟩,
  ⟨0, 0, 0, 0, [], false, false⟩,
  ⟨0, 0, 0, 0, [], false, false⟩,
  ⟨0, 0, 0, 0, [], false, false⟩,
  ⟨0, 0, 0, 0, [], false, false⟩,
  ⟨0, 0, 0, 0, [], false, false⟩,
  ⟨0, 0, 0, 0, [], false, false⟩,
  ⟨0, 0, 0, 0, [], false, false⟩,
  ⟨0, 0, 0, 0, [], false, false⟩,
  ⟨0, 0, 0, 0, [], false, false⟩,
  ⟨0, 0, 0, 0, [], false, false⟩,
  ⟨0, 0, 0, 0, [], false, false⟩,
  ⟨0, 0, 0, 0, [], false, false⟩,
  ⟨0, 0, 0, 0, [], false, false⟩,
  ⟨0, 0, 0, 0, [], false, false⟩]

abbrev f_main_main : Nat := 0
abbrev f_gosem_cut : Nat := 1
abbrev f_gosem_cut_init : Nat := 2
abbrev f_waferlaw01_TextAt : Nat := 3
abbrev f_waferlaw01_TextCommon : Nat := 4
abbrev f_waferlaw01_TextPlaces : Nat := 5
abbrev f_waferlaw01_TextBack : Nat := 6
abbrev f_waferlaw01_TextSpans : Nat := 7
abbrev f_text_At : Nat := 8
abbrev f_waferref01_At : Nat := 9
abbrev f_waferlaw01_alive : Nat := 10
abbrev f_text_Same : Nat := 11
abbrev f_text_Where : Nat := 12
abbrev f_waferref01_Where : Nat := 13
abbrev f_waferlaw01_Texts : Nat := 14
abbrev f_text_Lines : Nat := 15
abbrev f_waferref01_Lines : Nat := 16
abbrev f_text_Span : Nat := 17
abbrev f_waferref01_Span : Nat := 18
abbrev f_text_Caret : Nat := 19
abbrev f_waferref01_Caret : Nat := 20
abbrev f_waferref01_Same : Nat := 21
abbrev f_text_lines : Nat := 22
abbrev f_text_place : Nat := 23
abbrev f_waferref01_place : Nat := 24
abbrev f_slices_Collect_string : Nat := 25
abbrev f_text_Caret_1 : Nat := 26
abbrev f_strings_Repeat : Nat := 27
abbrev f_text_lines_1 : Nat := 28
abbrev f_strings_Cut : Nat := 29
abbrev f_slices_AppendSeq_string_string : Nat := 30
abbrev f_math_bits_Mul : Nat := 31
abbrev f_strings_HasPrefix : Nat := 32
abbrev f_strings_Builder_Grow : Nat := 33
abbrev f_strings_Builder_WriteString : Nat := 34
abbrev f_strings_Builder_Len : Nat := 35
abbrev f_strings_Builder_String : Nat := 36
abbrev f_stringslite_Cut : Nat := 37
abbrev f_math_bits_Mul32 : Nat := 38
abbrev f_math_bits_Mul64 : Nat := 39
abbrev f_stringslite_HasPrefix : Nat := 40
abbrev f_strings_Builder_copyCheck : Nat := 41
abbrev f_strings_Builder_grow : Nat := 42
abbrev f_stringslite_Index : Nat := 43
abbrev f_abi_NoEscape : Nat := 44
abbrev f_bytealg_MakeNoZero : Nat := 45
abbrev f_stringslite_IndexByte : Nat := 46
abbrev f_bytealg_IndexString : Nat := 47
abbrev f_bytealg_Cutover : Nat := 48
abbrev f_bytealg_IndexRabinKarp_string : Nat := 49
abbrev f_bytealg_IndexByteString : Nat := 50
abbrev f_bytealg_hashStr_string : Nat := 51
abbrev f_runtime_boundsError_Error : Nat := 52
abbrev f_runtime_boundsError_RuntimeError : Nat := 53
abbrev f_runtime_errorString_Error : Nat := 54
abbrev f_runtime_errorString_RuntimeError : Nat := 55
abbrev f_runtime_plainError_Error : Nat := 56
abbrev f_runtime_plainError_RuntimeError : Nat := 57
abbrev f_runtime_errorAddressString_Error : Nat := 58
abbrev f_runtime_errorAddressString_RuntimeError : Nat := 59
abbrev f_runtime_TypeAssertionError_Error : Nat := 60
abbrev f_runtime_TypeAssertionError_RuntimeError : Nat := 61
abbrev f_runtime_PanicNilError_Error : Nat := 62
abbrev f_runtime_PanicNilError_RuntimeError : Nat := 63
abbrev f_abi_Type_Align : Nat := 64
abbrev f_runtime_maps_unhashableTypeError_Error : Nat := 65
abbrev f_runtime_maps_unhashableTypeError_RuntimeError : Nat := 66
abbrev f_api_Errno_Error : Nat := 67
abbrev f_strings_Builder_Reset : Nat := 68
abbrev f_abi_Kind_String : Nat := 69
abbrev y_ : Nat := 0
abbrev y_func : Nat := 1
abbrev y_int64 : Nat := 2
abbrev y_int : Nat := 3
abbrev y_bool : Nat := 4
abbrev y_uint8 : Nat := 5
abbrev y_abi_BoundsErrorCode : Nat := 6
abbrev y_struct_x_int64_y_int_signed_bool_code_abi_BoundsErrorCode : Nat := 7
abbrev y_runtime_boundsError : Nat := 8
abbrev y_string : Nat := 9
abbrev y_runtime_errorString : Nat := 10
abbrev y_runtime_plainError : Nat := 11
abbrev y_uintptr : Nat := 12
abbrev y_struct_msg_string_addr_uintptr : Nat := 13
abbrev y_runtime_errorAddressString : Nat := 14
abbrev y_p_runtime_TypeAssertionError : Nat := 15
abbrev y_p_runtime_PanicNilError : Nat := 16
abbrev y_p_abi_Type : Nat := 17
abbrev y_struct_typ_abi_Type : Nat := 18
abbrev y_maps_unhashableTypeError : Nat := 19
abbrev y_interface : Nat := 20
abbrev y_int32 : Nat := 21
abbrev y_api_Errno : Nat := 22
abbrev y_int_api_Errno : Nat := 23
abbrev y_func_string_int_int_int_api_Errno : Nat := 24
abbrev y_func_bool : Nat := 25
abbrev y_func_string_int_int_bool : Nat := 26
abbrev y_func_string_string_int : Nat := 27
abbrev y_func_string_string_bool : Nat := 28
abbrev y_int_int : Nat := 29
abbrev y_func_string_int_int_int : Nat := 30
abbrev y_func_string_string_bool_31 : Nat := 31
abbrev y_s_string : Nat := 32
abbrev y_func_string_string : Nat := 33
abbrev y_func_string_int_int_string : Nat := 34
abbrev y_func_string_int_string : Nat := 35
abbrev y_func_string_string_int_int_bool : Nat := 36
abbrev y_func_string_int_bool : Nat := 37
abbrev y_func_string_int_int_int_bool : Nat := 38
abbrev y_func_func_int_text_line_bool : Nat := 39
abbrev y_iter_Seq2_int_text_line : Nat := 40
abbrev y_func_string_iter_Seq2_int_text_line : Nat := 41
abbrev y_struct_at_int_s_string : Nat := 42
abbrev y_text_line : Nat := 43
abbrev y_func_string_int_int : Nat := 44
abbrev y_func_iter_Seq_string_string : Nat := 45
abbrev y_func_string_bool : Nat := 46
abbrev y_func_func_string_bool : Nat := 47
abbrev y_s_uint8 : Nat := 48
abbrev y_func_int_text_line_bool : Nat := 49
abbrev y_string_string_bool : Nat := 50
abbrev y_func_string_string_string_string_bool : Nat := 51
abbrev y_iter_Seq_string : Nat := 52
abbrev y_func_string_iter_Seq_string_string : Nat := 53
abbrev y_uint : Nat := 54
abbrev y_uint_uint : Nat := 55
abbrev y_func_uint_uint_uint_uint : Nat := 56
abbrev y_p_strings_Builder : Nat := 57
abbrev y_struct_addr_strings_Builder_buf_uint8 : Nat := 58
abbrev y_strings_Builder : Nat := 59
abbrev y_func_int : Nat := 60
abbrev y_interface_Error_string : Nat := 61
abbrev y_error : Nat := 62
abbrev y_int_error : Nat := 63
abbrev y_func_string_int_error : Nat := 64
abbrev y_func_int_65 : Nat := 65
abbrev y_func_string : Nat := 66
abbrev y_uint32 : Nat := 67
abbrev y_uint32_uint32 : Nat := 68
abbrev y_func_uint32_uint32_uint32_uint32 : Nat := 69
abbrev y_uint64 : Nat := 70
abbrev y_uint64_uint64 : Nat := 71
abbrev y_func_uint64_uint64_uint64_uint64 : Nat := 72
abbrev y_p_uint8 : Nat := 73
abbrev y_unsafe_Pointer : Nat := 74
abbrev y_func_unsafe_Pointer_unsafe_Pointer : Nat := 75
abbrev y_func_int_uint8 : Nat := 76
abbrev y_func_string_uint8_int : Nat := 77
abbrev y_func_int_int : Nat := 78
abbrev y_func_string_uint32_uint32 : Nat := 79
abbrev y_struct_interface_abi_Type_concrete_abi_Type_asserted_abi_T : Nat := 80
abbrev y_runtime_TypeAssertionError : Nat := 81
abbrev y_0_runtime_PanicNilError : Nat := 82
abbrev y_struct_0_runtime_PanicNilError : Nat := 83
abbrev y_runtime_PanicNilError : Nat := 84
abbrev y_abi_TFlag : Nat := 85
abbrev y_abi_Kind : Nat := 86
abbrev y_func_unsafe_Pointer_unsafe_Pointer_bool : Nat := 87
abbrev y_abi_NameOff : Nat := 88
abbrev y_abi_TypeOff : Nat := 89
abbrev y_struct_Size_uintptr_PtrBytes_uintptr_Hash_uint32_TFlag_abi : Nat := 90
abbrev y_abi_Type : Nat := 91
noncomputable def rs0 : TypeId → List KSh := rowSh Pg
def extL : List (Nat × (List AV → Option AV)) := [(f_waferlaw01_alive, xTrue)]
def gx : PExt := fun f => extL.lookup f
def extIds : Nat := (extL.map fun p => 2 ^ p.1).foldl (· ||| ·) 0
def normIds : Nat := 0
def cfg0 : FuncId → FCfg := fun f => { cfgL.getD f default with ext := extIds.testBit f, norm := normIds.testBit f }
theorem hx0 : ∀ f, (cfg0 f).ext = false → gx.ext f = none := by
  have key : (extL.all fun p => extIds.testBit p.1) = true := by kernel_rfl
  intro f h
  have h1 : extIds.testBit f = false := h
  have h2 : gx f = none := by
    cases hg : gx f with
    | none => rfl
    | some e =>
      have : (f, e) ∈ extL := List.lookup_eq_some_iff.1 hg |>.elim fun l ⟨r, h, _⟩ => by rw [h]; simp
      have := List.all_eq_true.1 key _ this
      simp only at this
      rw [h1] at this; cases this
  unfold PExt.ext; rw [h2]; rfl
noncomputable abbrev evp : CallF := ev Pg cfg0 gx.ext
noncomputable def shL0 : List (Nat × KM) := []
noncomputable def sh0 : FuncId → KM := fun f => match shL0.lookup f with
  | some k => k
  | none => .inl false
@[irreducible] noncomputable def kc0 : KC := kcalls Pg cfg0 rs0 sh0 12
@[irreducible] noncomputable def kt0 (f : FuncId) (args : List AV) (H : Heap) : KT := ktree Pg cfg0 rs0 sh0 12 false f args .none H
@[irreducible] noncomputable def ktc0 (f : FuncId) (args : List AV) (H : Heap) : KT := ktree Pg cfg0 rs0 sh0 12 true f args .none H
theorem hkc0 {QD : List (St → Prop)} {QR : CRes → Prop} : KCS Pg cfg0 evp QD QR kc0 := by
  delta kc0
  exact kcalls_sound (ev_byCode hx0) 12 _
theorem kt0_ev {f : FuncId} {args : List AV} {H : Heap} {r : CRes} (h : (kt0 f args H).wp Pg cfg0 evp [] (fun x => x = r)) : evp f args .none H = some r := by
  delta kt0 at h
  obtain ⟨x, h1, rfl⟩ := ktree_sound (ev_byCode hx0) h
  exact h1
theorem ktc0_ev {f : FuncId} {args : List AV} {H : Heap} {r : CRes} (h : (ktc0 f args H).wp Pg cfg0 evp [] (fun x => x = r)) : evp f args .none H = some r := by
  delta ktc0 at h
  obtain ⟨x, h1, rfl⟩ := ktree_sound (ev_byCode hx0) h
  exact h1
theorem loop0 {σ : Type} {t : KT} {QD : List (St → Prop)} {QR : CRes → Prop} (S : σ → St) (Inv : σ → Prop) (m : σ → Nat) (a0 : σ) (h0 : t.atLoop = some (S a0)) (hi : Inv a0)
    (hr : ∀ a, Inv a → (t.round Pg cfg0 rs0 kc0 (S a)).wp Pg cfg0 evp ((fun s => ∃ a', (Inv a' ∧ m a' < m a) ∧ s = S a') :: QD) QR) : t.wp Pg cfg0 evp QD QR :=
  kt_loop (rs := rs0) (kc := kc0) S Inv m a0 (fun _ => hkc0) h0 hi hr
noncomputable def shL1 : List (Nat × KM) := []
noncomputable def sh1 : FuncId → KM := fun f => match shL1.lookup f with
  | some k => k
  | none => .inl false
@[irreducible] noncomputable def kc1 : KC := kcalls Pg cfg0 rs0 sh1 12
@[irreducible] noncomputable def kt1 (f : FuncId) (args : List AV) (H : Heap) : KT := ktree Pg cfg0 rs0 sh1 12 false f args .none H
@[irreducible] noncomputable def ktc1 (f : FuncId) (args : List AV) (H : Heap) : KT := ktree Pg cfg0 rs0 sh1 12 true f args .none H
theorem hkc1 {QD : List (St → Prop)} {QR : CRes → Prop} : KCS Pg cfg0 evp QD QR kc1 := by
  delta kc1
  exact kcalls_sound (ev_byCode hx0) 12 _
theorem kt1_ev {f : FuncId} {args : List AV} {H : Heap} {r : CRes} (h : (kt1 f args H).wp Pg cfg0 evp [] (fun x => x = r)) : evp f args .none H = some r := by
  delta kt1 at h
  obtain ⟨x, h1, rfl⟩ := ktree_sound (ev_byCode hx0) h
  exact h1
theorem ktc1_ev {f : FuncId} {args : List AV} {H : Heap} {r : CRes} (h : (ktc1 f args H).wp Pg cfg0 evp [] (fun x => x = r)) : evp f args .none H = some r := by
  delta ktc1 at h
  obtain ⟨x, h1, rfl⟩ := ktree_sound (ev_byCode hx0) h
  exact h1
theorem loop1 {σ : Type} {t : KT} {QD : List (St → Prop)} {QR : CRes → Prop} (S : σ → St) (Inv : σ → Prop) (m : σ → Nat) (a0 : σ) (h0 : t.atLoop = some (S a0)) (hi : Inv a0)
    (hr : ∀ a, Inv a → (t.round Pg cfg0 rs0 kc1 (S a)).wp Pg cfg0 evp ((fun s => ∃ a', (Inv a' ∧ m a' < m a) ∧ s = S a') :: QD) QR) : t.wp Pg cfg0 evp QD QR :=
  kt_loop (rs := rs0) (kc := kc1) S Inv m a0 (fun _ => hkc1) h0 hi hr
noncomputable def shL2 : List (Nat × KM) := []
noncomputable def sh2 : FuncId → KM := fun f => match shL2.lookup f with
  | some k => k
  | none => .inl false
@[irreducible] noncomputable def kc2 : KC := kcalls Pg cfg0 rs0 sh2 12
@[irreducible] noncomputable def kt2 (f : FuncId) (args : List AV) (H : Heap) : KT := ktree Pg cfg0 rs0 sh2 12 false f args .none H
@[irreducible] noncomputable def ktc2 (f : FuncId) (args : List AV) (H : Heap) : KT := ktree Pg cfg0 rs0 sh2 12 true f args .none H
theorem hkc2 {QD : List (St → Prop)} {QR : CRes → Prop} : KCS Pg cfg0 evp QD QR kc2 := by
  delta kc2
  exact kcalls_sound (ev_byCode hx0) 12 _
theorem kt2_ev {f : FuncId} {args : List AV} {H : Heap} {r : CRes} (h : (kt2 f args H).wp Pg cfg0 evp [] (fun x => x = r)) : evp f args .none H = some r := by
  delta kt2 at h
  obtain ⟨x, h1, rfl⟩ := ktree_sound (ev_byCode hx0) h
  exact h1
theorem ktc2_ev {f : FuncId} {args : List AV} {H : Heap} {r : CRes} (h : (ktc2 f args H).wp Pg cfg0 evp [] (fun x => x = r)) : evp f args .none H = some r := by
  delta ktc2 at h
  obtain ⟨x, h1, rfl⟩ := ktree_sound (ev_byCode hx0) h
  exact h1
theorem loop2 {σ : Type} {t : KT} {QD : List (St → Prop)} {QR : CRes → Prop} (S : σ → St) (Inv : σ → Prop) (m : σ → Nat) (a0 : σ) (h0 : t.atLoop = some (S a0)) (hi : Inv a0)
    (hr : ∀ a, Inv a → (t.round Pg cfg0 rs0 kc2 (S a)).wp Pg cfg0 evp ((fun s => ∃ a', (Inv a' ∧ m a' < m a) ∧ s = S a') :: QD) QR) : t.wp Pg cfg0 evp QD QR :=
  kt_loop (rs := rs0) (kc := kc2) S Inv m a0 (fun _ => hkc2) h0 hi hr
noncomputable def shL3 : List (Nat × KM) := [(f_strings_HasPrefix, .con (some (resSh Pg f_strings_HasPrefix)) none false)]
noncomputable def sh3 : FuncId → KM := fun f => match shL3.lookup f with
  | some k => k
  | none => .inl false
@[irreducible] noncomputable def kc3 : KC := kcalls Pg cfg0 rs0 sh3 12
@[irreducible] noncomputable def kt3 (f : FuncId) (args : List AV) (H : Heap) : KT := ktree Pg cfg0 rs0 sh3 12 false f args .none H
@[irreducible] noncomputable def ktc3 (f : FuncId) (args : List AV) (H : Heap) : KT := ktree Pg cfg0 rs0 sh3 12 true f args .none H
theorem hkc3 {QD : List (St → Prop)} {QR : CRes → Prop} : KCS Pg cfg0 evp QD QR kc3 := by
  delta kc3
  exact kcalls_sound (ev_byCode hx0) 12 _
theorem kt3_ev {f : FuncId} {args : List AV} {H : Heap} {r : CRes} (h : (kt3 f args H).wp Pg cfg0 evp [] (fun x => x = r)) : evp f args .none H = some r := by
  delta kt3 at h
  obtain ⟨x, h1, rfl⟩ := ktree_sound (ev_byCode hx0) h
  exact h1
theorem ktc3_ev {f : FuncId} {args : List AV} {H : Heap} {r : CRes} (h : (ktc3 f args H).wp Pg cfg0 evp [] (fun x => x = r)) : evp f args .none H = some r := by
  delta ktc3 at h
  obtain ⟨x, h1, rfl⟩ := ktree_sound (ev_byCode hx0) h
  exact h1
theorem loop3 {σ : Type} {t : KT} {QD : List (St → Prop)} {QR : CRes → Prop} (S : σ → St) (Inv : σ → Prop) (m : σ → Nat) (a0 : σ) (h0 : t.atLoop = some (S a0)) (hi : Inv a0)
    (hr : ∀ a, Inv a → (t.round Pg cfg0 rs0 kc3 (S a)).wp Pg cfg0 evp ((fun s => ∃ a', (Inv a' ∧ m a' < m a) ∧ s = S a') :: QD) QR) : t.wp Pg cfg0 evp QD QR :=
  kt_loop (rs := rs0) (kc := kc3) S Inv m a0 (fun _ => hkc3) h0 hi hr
noncomputable def shL4 : List (Nat × KM) := [(f_text_Same, .con (some (resSh Pg f_text_Same)) none false),
  (f_waferlaw01_alive, .con (some (resSh Pg f_waferlaw01_alive)) none false)]
noncomputable def sh4 : FuncId → KM := fun f => match shL4.lookup f with
  | some k => k
  | none => .inl false
@[irreducible] noncomputable def kc4 : KC := kcalls Pg cfg0 rs0 sh4 12
@[irreducible] noncomputable def kt4 (f : FuncId) (args : List AV) (H : Heap) : KT := ktree Pg cfg0 rs0 sh4 12 false f args .none H
@[irreducible] noncomputable def ktc4 (f : FuncId) (args : List AV) (H : Heap) : KT := ktree Pg cfg0 rs0 sh4 12 true f args .none H
theorem hkc4 {QD : List (St → Prop)} {QR : CRes → Prop} : KCS Pg cfg0 evp QD QR kc4 := by
  delta kc4
  exact kcalls_sound (ev_byCode hx0) 12 _
theorem kt4_ev {f : FuncId} {args : List AV} {H : Heap} {r : CRes} (h : (kt4 f args H).wp Pg cfg0 evp [] (fun x => x = r)) : evp f args .none H = some r := by
  delta kt4 at h
  obtain ⟨x, h1, rfl⟩ := ktree_sound (ev_byCode hx0) h
  exact h1
theorem ktc4_ev {f : FuncId} {args : List AV} {H : Heap} {r : CRes} (h : (ktc4 f args H).wp Pg cfg0 evp [] (fun x => x = r)) : evp f args .none H = some r := by
  delta ktc4 at h
  obtain ⟨x, h1, rfl⟩ := ktree_sound (ev_byCode hx0) h
  exact h1
theorem loop4 {σ : Type} {t : KT} {QD : List (St → Prop)} {QR : CRes → Prop} (S : σ → St) (Inv : σ → Prop) (m : σ → Nat) (a0 : σ) (h0 : t.atLoop = some (S a0)) (hi : Inv a0)
    (hr : ∀ a, Inv a → (t.round Pg cfg0 rs0 kc4 (S a)).wp Pg cfg0 evp ((fun s => ∃ a', (Inv a' ∧ m a' < m a) ∧ s = S a') :: QD) QR) : t.wp Pg cfg0 evp QD QR :=
  kt_loop (rs := rs0) (kc := kc4) S Inv m a0 (fun _ => hkc4) h0 hi hr
end Go.Proofs
