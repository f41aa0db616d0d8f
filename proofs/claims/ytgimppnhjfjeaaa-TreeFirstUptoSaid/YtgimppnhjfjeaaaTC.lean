import Derived.Test.YtgimppnhjfjeaaaProg
import Derived.Test.YtgimppnhjfjeaaaE29
import Derived.KernelRfl
open Go Go.Eng
namespace Go.Proofs
noncomputable abbrev Pg : Program := Try.prog
def cutB : Nat := 2 ^ cutBit
def cfgL : List FCfg := [⟨0, 0, 0, 0, []⟩,
  ⟨0, 0, 0, 0, []⟩,
  ⟨0, 0, 0, 0, []⟩,
  ⟨240, 0, 0, 0, []⟩,
  ⟨0, 0, 0, 0, []⟩,
  ⟨0, 0, 0, 0, [(1000005, 99)]⟩,
  ⟨0, 0, 0, 0, [(1000005, 35), (1000009, 3587)]⟩,
  ⟨12, 0, 0, 0, []⟩,
  ⟨12, 0, 0, 0, []⟩,
  ⟨12, 0, 0, 0, []⟩,
  ⟨12, 0, 0, 0, []⟩,
  ⟨0, 0, 0, 0, []⟩,
  ⟨0, 0, 0, 0, []⟩,
  ⟨0, 0, 0, 0, []⟩,
  ⟨0, 0, 0, 0, []⟩,
  ⟨0, 32, 0, 0, [(0, 3585 + cutB), (2, 7516192768 + cutB)]⟩,
  ⟨0, 0, 0, 0, [(0, 12291)]⟩,
  ⟨0, 768, 0, 0, [(0, 229382)]⟩,
  ⟨0, 192, 0, 0, [(0, 35), (1000009, 227)]⟩,
  ⟨0, 768, 0, 0, [(0, 229382)]⟩,
  ⟨0, 192, 0, 0, [(0, 35), (1000009, 227)]⟩,
  ⟨0, 1, 0, 0, []⟩,
  ⟨2, 0, 0, 0, []⟩,
  ⟨0, 768, 0, 0, [(0, 229382)]⟩,
  ⟨12, 0, 0, 0, []⟩,
  ⟨4, 0, 0, 0, []⟩,
  ⟨0, 0, 0, 0, []⟩,
  ⟨0, 0, 0, 0, []⟩,
  ⟨2, 252, 0, 0, [(1000002, 2), (1000019, 510), (1000029, 514)]⟩,
  ⟨0, 0, 0, 0, [(0, 35)]⟩,
  ⟨0, 0, 0, 0, []⟩,
  ⟨4, 0, 0, 0, []⟩,
  ⟨0, 0, 0, 0, []⟩,
  ⟨2, 0, 0, 0, [(1000002, 2), (1000005, 2), (1000006, 2), (1000007, 2), (1000011, 30), (1000012, 2), (1000013, 2), (1000016, 2), (1000018, 2)]⟩,
  ⟨0, 768, 0, 0, [(0, 229382)]⟩,
  ⟨12, 0, 0, 0, []⟩,
  ⟨0, 768, 0, 0, [(0, 229382)]⟩,
  ⟨12, 0, 0, 0, []⟩,
  ⟨0, 768, 0, 0, [(0, 229382)]⟩,
  ⟨12, 0, 0, 0, []⟩,
  ⟨0, 768, 0, 0, [(0, 229382)]⟩,
  ⟨12, 0, 0, 0, []⟩,
  ⟨0, 32, 0, 0, [(0, 450)]⟩,
  ⟨4, 0, 0, 0, []⟩,
  ⟨4, 0, 0, 0, []⟩,
  ⟨0, 0, 0, 0, []⟩,
  ⟨4, 0, 0, 0, []⟩,
  ⟨4, 0, 0, 0, []⟩,
  ⟨4, 0, 0, 0, []⟩,
  ⟨4, 0, 0, 0, []⟩,
  ⟨0, 0, 0, 0, []⟩,
  ⟨0, 0, 0, 0, []⟩,
  ⟨0, 0, 0, 0, []⟩,
  ⟨0, 0, 0, 0, []⟩,
  ⟨0, 0, 0, 0, []⟩,
  ⟨0, 0, 0, 0, [(0, 450)]⟩,
  ⟨0, 32, 0, 0, [(0, 450)]⟩,
  ⟨2, 0, 0, 0, [(1000002, 2), (1000003, 2), (1000006, 2), (1000008, 2)]⟩,
  ⟨0, 32, 0, 0, [(0, 450)]⟩,
  ⟨0, 32, 0, 0, [(0, 450)]⟩,
  ⟨2, 0, 0, 0, []⟩,
  ⟨0, 32, 0, 0, [(0, 450)]⟩,
  ⟨2, 0, 0, 0, [(1000002, 2), (1000003, 6), (1000011, 30), (1000012, 6), (1000014, 2)]⟩,
  ⟨0, 32, 0, 0, [(0, 450)]⟩,
  ⟨2, 0, 0, 0, [(1000002, 2), (1000005, 6), (1000006, 2), (1000008, 2), (1000010, 2)]⟩,
  ⟨4, 0, 0, 0, []⟩,
  ⟨0, 0, 0, 0, []⟩,
  ⟨4, 0, 0, 0, []⟩,
  ⟨0, 0, 0, 0, []⟩,
  ⟨2, 0, 0, 0, []⟩,
  ⟨0, 0, 0, 0, []⟩,
  ⟨0, 0, 0, 0, []⟩,
  ⟨0, 32, 0, 0, [(0, 450)]⟩,
  ⟨2, 0, 0, 0, [(1000002, 2), (1000003, 2), (1000009, 2), (1000011, 2)]⟩,
  ⟨0, 768, 0, 0, [(0, 229382)]⟩,
  ⟨12, 0, 0, 0, []⟩,
  ⟨0, 0, 0, 0, []⟩,
  ⟨4, 0, 0, 0, []⟩,
  ⟨0, 0, 0, 0, []⟩,
  ⟨4, 0, 0, 0, []⟩,
  ⟨0, 0, 0, 0, []⟩,
  ⟨4, 0, 0, 0, []⟩,
  ⟨0, 0, 0, 0, []⟩,
  ⟨4, 0, 0, 0, []⟩,
  ⟨0, 0, 0, 0, []⟩,
  ⟨0, 32, 0, 0, [(0, 450)]⟩,
  ⟨4, 0, 0, 0, []⟩,
  ⟨0, 0, 0, 0, []⟩,
  ⟨0, 0, 0, 0, []⟩,
  ⟨0, 0, 0, 0, [(0, 3145729), (1000003, 1)]⟩,
  ⟨0, 0, 0, 0, []⟩,
  ⟨0, 0, 0, 0, []⟩,
  ⟨0, 0, 0, 0, [(0, 786433), (1000003, 1)]⟩,
  ⟨0, 0, 0, 0, []⟩,
  ⟨2, 0, 0, 0, [(1000002, 2), (1000011, 2), (1000014, 2)]⟩,
  ⟨4, 0, 0, 0, []⟩,
  ⟨0, 0, 0, 0, []⟩,
  ⟨0, 0, 0, 0, [(1, 114689)]⟩,
  ⟨0, 0, 0, 0, []⟩,
  ⟨0, 0, 0, 0, []⟩,
  ⟨0, 0, 0, 0, []⟩,
  ⟨0, 0, 0, 0, []⟩,
  ⟨0, 0, 0, 0, []⟩,
  ⟨0, 0, 0, 0, []⟩,
  ⟨0, 0, 0, 0, []⟩,
  ⟨0, 0, 0, 0, []⟩,
  ⟨0, 0, 0, 0, []⟩,
  ⟨0, 0, 0, 0, []⟩,
  ⟨0, 0, 0, 0, []⟩,
  ⟨0, 0, 0, 0, []⟩,
  ⟨0, 0, 0, 0, []⟩,
  ⟨0, 0, 0, 0, []⟩,
  ⟨0, 0, 0, 0, []⟩,
  ⟨0, 0, 0, 0, []⟩,
  ⟨0, 0, 0, 0, []⟩,
  ⟨0, 0, 0, 0, []⟩,
  ⟨0, 0, 0, 0, []⟩,
  ⟨0, 0, 0, 0, []⟩,
  ⟨0, 0, 0, 0, []⟩]
def cfg0 : FuncId → FCfg := fun f => cfgL.getD f default
abbrev f_main_main : Nat := 0
abbrev f_gosem_cut : Nat := 1
abbrev f_gosem_cut_init : Nat := 2
abbrev f_waferlaw04_TreeSameTys : Nat := 3
abbrev f_waferlaw04_TreeEquality : Nat := 4
abbrev f_waferlaw04_TreeCounts : Nat := 5
abbrev f_waferlaw04_TreeFirst : Nat := 6
abbrev f_tree_SamePat : Nat := 7
abbrev f_waferref04_SamePat : Nat := 8
abbrev f_tree_SameTy : Nat := 9
abbrev f_waferref04_SameTy : Nat := 10
abbrev f_waferlaw04_alive : Nat := 11
abbrev f_tree_Same : Nat := 12
abbrev f_tree_Depth : Nat := 13
abbrev f_tree_Nodes : Nat := 14
abbrev f_tree_Right : Nat := 15
abbrev f_slices_Equal_string_string : Nat := 16
abbrev f_slices_EqualFunc_api_Pat_api_Pat_api_Pat_api_Pat : Nat := 17
abbrev f_waferref04_patsSame : Nat := 18
abbrev f_slices_EqualFunc_api_Ty_api_Ty_api_Ty_api_Ty : Nat := 19
abbrev f_waferref04_tysSame : Nat := 20
abbrev f_waferlaw04_one : Nat := 21
abbrev f_tree_RightExp : Nat := 22
abbrev f_slices_EqualFunc_api_Dec_api_Dec_api_Dec_api_Dec : Nat := 23
abbrev f_tree_sameDec : Nat := 24
abbrev f_tree_walker_decs : Nat := 25
abbrev f_tree_caught : Nat := 26
abbrev f_tree_Right_1 : Nat := 27
abbrev f_tree_dec : Nat := 28
abbrev f_waferref04_texts : Nat := 29
abbrev f_tree_right : Nat := 30
abbrev f_tree_walker_exps : Nat := 31
abbrev f_tree_RightExp_1 : Nat := 32
abbrev f_tree_exp : Nat := 33
abbrev f_slices_EqualFunc_api_Exp_api_Exp_api_Exp_api_Exp : Nat := 34
abbrev f_tree_SameExp : Nat := 35
abbrev f_slices_EqualFunc_api_Con_api_Con_api_Con_api_Con : Nat := 36
abbrev f_tree_sameCon : Nat := 37
abbrev f_slices_EqualFunc_api_Mod_api_Mod_api_Mod_api_Mod : Nat := 38
abbrev f_tree_SameMod : Nat := 39
abbrev f_slices_EqualFunc_api_Sig_api_Sig_api_Sig_api_Sig : Nat := 40
abbrev f_tree_SameSig : Nat := 41
abbrev f_tree_each_api_Dec : Nat := 42
abbrev f_tree_walker_decs_1 : Nat := 43
abbrev f_tree_walker_within : Nat := 44
abbrev f_tree_walker_decs_1_1 : Nat := 45
abbrev f_tree_walker_tys : Nat := 46
abbrev f_tree_walker_cons : Nat := 47
abbrev f_tree_walker_mods : Nat := 48
abbrev f_tree_walker_sigs : Nat := 49
abbrev f_tree_caught_1 : Nat := 50
abbrev f_tree_ask : Nat := 51
abbrev f_tree_count : Nat := 52
abbrev f_tree_highName : Nat := 53
abbrev f_tree_lowName : Nat := 54
abbrev f_tree_each_string : Nat := 55
abbrev f_tree_each_api_Ty : Nat := 56
abbrev f_tree_ty : Nat := 57
abbrev f_tree_each_api_Exp : Nat := 58
abbrev f_tree_each_api_Con : Nat := 59
abbrev f_tree_con : Nat := 60
abbrev f_tree_each_api_Mod : Nat := 61
abbrev f_tree_mod : Nat := 62
abbrev f_tree_each_api_Sig : Nat := 63
abbrev f_tree_sig : Nat := 64
abbrev f_tree_walker_exps_1 : Nat := 65
abbrev f_tree_walker_exps_1_1 : Nat := 66
abbrev f_tree_walker_pats : Nat := 67
abbrev f_tree_parts : Nat := 68
abbrev f_tree_exp_1 : Nat := 69
abbrev f_tree_lowPath : Nat := 70
abbrev f_tree_highPath : Nat := 71
abbrev f_tree_each_api_Pat : Nat := 72
abbrev f_tree_pat : Nat := 73
abbrev f_slices_EqualFunc_api_Spec_api_Spec_api_Spec_api_Spec : Nat := 74
abbrev f_tree_sameSpec : Nat := 75
abbrev f_tree_walker_within_1 : Nat := 76
abbrev f_tree_walker_tys_1 : Nat := 77
abbrev f_tree_walker_tys_1_1 : Nat := 78
abbrev f_tree_walker_cons_1 : Nat := 79
abbrev f_tree_walker_cons_1_1 : Nat := 80
abbrev f_tree_walker_mods_1 : Nat := 81
abbrev f_tree_walker_mods_1_1 : Nat := 82
abbrev f_tree_walker_sigs_1 : Nat := 83
abbrev f_tree_walker_sigs_1_1 : Nat := 84
abbrev f_tree_each_api_Spec : Nat := 85
abbrev f_tree_walker_sigs_1_1_1 : Nat := 86
abbrev f_tree_walker_sigs_1_1_1_1 : Nat := 87
abbrev f_tree_must : Nat := 88
abbrev f_names_Right : Nat := 89
abbrev f_names_Upper : Nat := 90
abbrev f_names_Lower : Nat := 91
abbrev f_names_Tyvar : Nat := 92
abbrev f_tree_basic : Nat := 93
abbrev f_tree_spec : Nat := 94
abbrev f_tree_walker_pats_1 : Nat := 95
abbrev f_tree_walker_pats_1_1 : Nat := 96
abbrev f_names_Path : Nat := 97
abbrev f_names_low : Nat := 98
abbrev f_names_high : Nat := 99
abbrev f_names_digit : Nat := 100
abbrev f_names_Reserved : Nat := 101
abbrev f_runtime_boundsError_Error : Nat := 102
abbrev f_runtime_boundsError_RuntimeError : Nat := 103
abbrev f_runtime_errorString_Error : Nat := 104
abbrev f_runtime_errorString_RuntimeError : Nat := 105
abbrev f_runtime_plainError_Error : Nat := 106
abbrev f_runtime_plainError_RuntimeError : Nat := 107
abbrev f_runtime_errorAddressString_Error : Nat := 108
abbrev f_runtime_errorAddressString_RuntimeError : Nat := 109
abbrev f_runtime_TypeAssertionError_Error : Nat := 110
abbrev f_runtime_TypeAssertionError_RuntimeError : Nat := 111
abbrev f_runtime_PanicNilError_Error : Nat := 112
abbrev f_runtime_PanicNilError_RuntimeError : Nat := 113
abbrev f_abi_Type_Align : Nat := 114
abbrev f_runtime_maps_unhashableTypeError_Error : Nat := 115
abbrev f_runtime_maps_unhashableTypeError_RuntimeError : Nat := 116
abbrev f_api_Errno_Error : Nat := 117
abbrev f_abi_Kind_String : Nat := 118
abbrev y_ : Nat := 0
abbrev y_func : Nat := 1
abbrev y_int64 : Nat := 2
abbrev y_int : Nat := 3
abbrev y_bool : Nat := 4
abbrev y_uint8 : Nat := 5
abbrev y_abi_BoundsErrorCode : Nat := 6
abbrev y_struct_x_int64_y_int_signed_bool_code_abi_BoundsErrorCode : Nat := 7
abbrev y_runtime_boundsError : Nat := 8
abbrev y_string : Nat := 9
abbrev y_runtime_errorString : Nat := 10
abbrev y_runtime_plainError : Nat := 11
abbrev y_uintptr : Nat := 12
abbrev y_struct_msg_string_addr_uintptr : Nat := 13
abbrev y_runtime_errorAddressString : Nat := 14
abbrev y_p_runtime_TypeAssertionError : Nat := 15
abbrev y_p_runtime_PanicNilError : Nat := 16
abbrev y_p_abi_Type : Nat := 17
abbrev y_struct_typ_abi_Type : Nat := 18
abbrev y_maps_unhashableTypeError : Nat := 19
abbrev y_interface : Nat := 20
abbrev y_int32 : Nat := 21
abbrev y_s_string : Nat := 22
abbrev y_s_api_Pat : Nat := 23
abbrev y_struct_Kind_int_Name_string_Path_string_N_int64_Kids_api_P : Nat := 24
abbrev y_api_Pat : Nat := 25
abbrev y_s_api_Ty : Nat := 26
abbrev y_struct_Kind_int_Name_string_Path_string_Kids_api_Ty : Nat := 27
abbrev y_api_Ty : Nat := 28
abbrev y_func_api_Pat_api_Pat_bool : Nat := 29
abbrev y_func_api_Ty_api_Ty_bool : Nat := 30
abbrev y_func_bool : Nat := 31
abbrev y_func_api_Pat_api_Pat_api_Ty_api_Ty_bool : Nat := 32
abbrev y_s_api_Dec : Nat := 33
abbrev y_func_api_Dec_api_Dec_bool : Nat := 34
abbrev y_func_api_Dec_api_Dec_api_Dec_bool : Nat := 35
abbrev y_func_api_Dec_int : Nat := 36
abbrev y_api_Errno : Nat := 37
abbrev y_int_api_Errno : Nat := 38
abbrev y_func_api_Dec_int_api_Errno : Nat := 39
abbrev y_func_string_string_bool : Nat := 40
abbrev y_func_api_Pat_api_Pat_func_api_Pat_api_Pat_bool_bool : Nat := 41
abbrev y_func_api_Pat_api_Pat_bool_42 : Nat := 42
abbrev y_func_api_Ty_api_Ty_func_api_Ty_api_Ty_bool_bool : Nat := 43
abbrev y_func_api_Ty_api_Ty_bool_44 : Nat := 44
abbrev y_s_api_Exp : Nat := 45
abbrev y_struct_Kind_int_Op_int_N_int64_Path_string_Pats_api_Pat_Ki : Nat := 46
abbrev y_api_Exp : Nat := 47
abbrev y_func_api_Exp : Nat := 48
abbrev y_s_api_Con : Nat := 49
abbrev y_s_api_Mod : Nat := 50
abbrev y_s_api_Sig : Nat := 51
abbrev y_struct_Kind_int_At_int_Name_string_Params_string_Tys_api_T : Nat := 52
abbrev y_api_Dec : Nat := 53
abbrev y_func_api_Exp_api_Errno : Nat := 54
abbrev y_func_api_Dec_api_Dec_func_api_Dec_api_Dec_bool_bool : Nat := 55
abbrev y_func_api_Dec_api_Dec_bool_56 : Nat := 56
abbrev y_struct_nodes_int_depth_int_deepest_int : Nat := 57
abbrev y_tree_walker : Nat := 58
abbrev y_p_tree_walker : Nat := 59
abbrev y_func_api_Dec_tree_walker : Nat := 60
abbrev y_func_func_api_Errno : Nat := 61
abbrev y_func_api_Dec : Nat := 62
abbrev y_func_tree_walker_func_api_Errno : Nat := 63
abbrev y_func_api_Exp_tree_walker : Nat := 64
abbrev y_func_api_Exp_65 : Nat := 65
abbrev y_func_api_Exp_api_Exp_func_api_Exp_api_Exp_bool_bool : Nat := 66
abbrev y_func_api_Exp_api_Exp_bool : Nat := 67
abbrev y_func_api_Con_api_Con_func_api_Con_api_Con_bool_bool : Nat := 68
abbrev y_struct_Name_string_Tys_api_Ty : Nat := 69
abbrev y_api_Con : Nat := 70
abbrev y_func_api_Con_api_Con_bool : Nat := 71
abbrev y_func_api_Mod_api_Mod_func_api_Mod_api_Mod_bool_bool : Nat := 72
abbrev y_struct_Kind_int_Path_string_Decs_api_Dec_Mods_api_Mod_Sigs : Nat := 73
abbrev y_api_Mod : Nat := 74
abbrev y_func_api_Mod_api_Mod_bool : Nat := 75
abbrev y_func_api_Sig_api_Sig_func_api_Sig_api_Sig_bool_bool : Nat := 76
abbrev y_s_api_Spec : Nat := 77
abbrev y_struct_Kind_int_Path_string_Specs_api_Spec_Sigs_api_Sig_Ty : Nat := 78
abbrev y_api_Sig : Nat := 79
abbrev y_func_api_Sig_api_Sig_bool : Nat := 80
abbrev y_func_api_Dec_func_api_Dec : Nat := 81
abbrev y_func_func : Nat := 82
abbrev y_func_api_Ty_tree_walker : Nat := 83
abbrev y_func_api_Con_tree_walker : Nat := 84
abbrev y_func_api_Mod_tree_walker : Nat := 85
abbrev y_func_api_Sig_tree_walker : Nat := 86
abbrev y_tree_wrong : Nat := 87
abbrev y_tree_wrong_bool : Nat := 88
abbrev y_func_bool_89 : Nat := 89
abbrev y_2_int : Nat := 90
abbrev y_func_int_int_int : Nat := 91
abbrev y_func_string : Nat := 92
abbrev y_func_string_func_string : Nat := 93
abbrev y_func_api_Ty_func_api_Ty : Nat := 94
abbrev y_func_api_Ty : Nat := 95
abbrev y_func_api_Exp_func_api_Exp : Nat := 96
abbrev y_func_api_Con_func_api_Con : Nat := 97
abbrev y_func_api_Con : Nat := 98
abbrev y_func_api_Mod_func_api_Mod : Nat := 99
abbrev y_func_api_Mod : Nat := 100
abbrev y_func_api_Sig_func_api_Sig : Nat := 101
abbrev y_func_api_Sig : Nat := 102
abbrev y_func_api_Pat_tree_walker : Nat := 103
abbrev y_int_int_int : Nat := 104
abbrev y_func_int_int_int_int : Nat := 105
abbrev y_func_string_106 : Nat := 106
abbrev y_func_api_Pat_func_api_Pat : Nat := 107
abbrev y_func_api_Pat : Nat := 108
abbrev y_func_api_Spec_api_Spec_func_api_Spec_api_Spec_bool_bool : Nat := 109
abbrev y_struct_Kind_int_At_int_Name_string_Tys_api_Ty_Cons_api_Con : Nat := 110
abbrev y_api_Spec : Nat := 111
abbrev y_func_api_Spec_api_Spec_bool : Nat := 112
abbrev y_func_api_Spec_func_api_Spec : Nat := 113
abbrev y_func_api_Spec : Nat := 114
abbrev y_func_api_Errno : Nat := 115
abbrev y_func_string_api_Errno : Nat := 116
abbrev y_func_string_bool : Nat := 117
abbrev y_func_string_bool_118 : Nat := 118
abbrev y_func_string_api_Errno_119 : Nat := 119
abbrev y_func_uint8_bool : Nat := 120
abbrev y_func_string_121 : Nat := 121
abbrev y_struct_interface_abi_Type_concrete_abi_Type_asserted_abi_T : Nat := 122
abbrev y_runtime_TypeAssertionError : Nat := 123
abbrev y_0_runtime_PanicNilError : Nat := 124
abbrev y_struct_0_runtime_PanicNilError : Nat := 125
abbrev y_runtime_PanicNilError : Nat := 126
abbrev y_func_int : Nat := 127
abbrev y_uint32 : Nat := 128
abbrev y_abi_TFlag : Nat := 129
abbrev y_abi_Kind : Nat := 130
abbrev y_func_unsafe_Pointer_unsafe_Pointer_bool : Nat := 131
abbrev y_p_uint8 : Nat := 132
abbrev y_abi_NameOff : Nat := 133
abbrev y_abi_TypeOff : Nat := 134
abbrev y_struct_Size_uintptr_PtrBytes_uintptr_Hash_uint32_TFlag_abi : Nat := 135
abbrev y_abi_Type : Nat := 136
abbrev y_unsafe_Pointer : Nat := 137
noncomputable def rs0 : TypeId → List KSh := rowSh Pg
noncomputable abbrev evp : CallF := ev Pg cfg0 fun _ => none
noncomputable def shL0 : List (Nat × KM) := [(f_tree_walker_tys, .con (some (.arg 0)) none true),
  (f_tree_walker_pats, .con (some (.arg 0)) none true),
  (f_tree_walker_exps, .con (some (.arg 0)) none true),
  (f_tree_walker_cons, .con (some (.arg 0)) none true),
  (f_tree_walker_decs, .con (some (.arg 0)) none true),
  (f_tree_walker_mods, .con (some (.arg 0)) none true),
  (f_tree_walker_sigs, .con (some (.arg 0)) none true),
  (f_tree_each_api_Spec, .con (some (.tup [])) none true)]
noncomputable def sh0 : FuncId → KM := fun f => match shL0.lookup f with
  | some k => k
  | none => .inl false
@[irreducible] noncomputable def kc0 : KC := kcalls Pg cfg0 rs0 sh0 12
@[irreducible] noncomputable def kt0 (f : FuncId) (args : List AV) (H : Heap) : KT := ktree Pg cfg0 rs0 sh0 12 false f args .none H
@[irreducible] noncomputable def ktc0 (f : FuncId) (args : List AV) (H : Heap) : KT := ktree Pg cfg0 rs0 sh0 12 true f args .none H
theorem hkc0 {QD : List (St → Prop)} {QR : CRes → Prop} : KCS Pg cfg0 evp QD QR kc0 := by
  delta kc0
  exact kcalls_sound ev_byCode 12 _
theorem kt0_ev {f : FuncId} {args : List AV} {H : Heap} {r : CRes} (h : (kt0 f args H).wp Pg cfg0 evp [] (fun x => x = r)) : evp f args .none H = some r := by
  delta kt0 at h
  obtain ⟨x, h1, rfl⟩ := ktree_sound ev_byCode h
  exact h1
theorem ktc0_ev {f : FuncId} {args : List AV} {H : Heap} {r : CRes} (h : (ktc0 f args H).wp Pg cfg0 evp [] (fun x => x = r)) : evp f args .none H = some r := by
  delta ktc0 at h
  obtain ⟨x, h1, rfl⟩ := ktree_sound ev_byCode h
  exact h1
theorem loop0 {σ : Type} {t : KT} {QD : List (St → Prop)} {QR : CRes → Prop} (S : σ → St) (Inv : σ → Prop) (m : σ → Nat) (a0 : σ) (h0 : t.atLoop = some (S a0)) (hi : Inv a0)
    (hr : ∀ a, Inv a → (t.round Pg cfg0 rs0 kc0 (S a)).wp Pg cfg0 evp ((fun s => ∃ a', (Inv a' ∧ m a' < m a) ∧ s = S a') :: QD) QR) : t.wp Pg cfg0 evp QD QR :=
  kt_loop (rs := rs0) (kc := kc0) S Inv m a0 (fun _ => hkc0) h0 hi hr
noncomputable def shL1 : List (Nat × KM) := [(f_tree_Depth, .con (some (resSh Pg f_tree_Depth)) none false),
  (f_tree_Nodes, .con (some (resSh Pg f_tree_Nodes)) none false),
  (f_tree_Right, .con (some (resSh Pg f_tree_Right)) none false),
  (f_waferlaw04_alive, .con (some (resSh Pg f_waferlaw04_alive)) none false)]
noncomputable def sh1 : FuncId → KM := fun f => match shL1.lookup f with
  | some k => k
  | none => .inl false
@[irreducible] noncomputable def kc1 : KC := kcalls Pg cfg0 rs0 sh1 12
@[irreducible] noncomputable def kt1 (f : FuncId) (args : List AV) (H : Heap) : KT := ktree Pg cfg0 rs0 sh1 12 false f args .none H
@[irreducible] noncomputable def ktc1 (f : FuncId) (args : List AV) (H : Heap) : KT := ktree Pg cfg0 rs0 sh1 12 true f args .none H
theorem hkc1 {QD : List (St → Prop)} {QR : CRes → Prop} : KCS Pg cfg0 evp QD QR kc1 := by
  delta kc1
  exact kcalls_sound ev_byCode 12 _
theorem kt1_ev {f : FuncId} {args : List AV} {H : Heap} {r : CRes} (h : (kt1 f args H).wp Pg cfg0 evp [] (fun x => x = r)) : evp f args .none H = some r := by
  delta kt1 at h
  obtain ⟨x, h1, rfl⟩ := ktree_sound ev_byCode h
  exact h1
theorem ktc1_ev {f : FuncId} {args : List AV} {H : Heap} {r : CRes} (h : (ktc1 f args H).wp Pg cfg0 evp [] (fun x => x = r)) : evp f args .none H = some r := by
  delta ktc1 at h
  obtain ⟨x, h1, rfl⟩ := ktree_sound ev_byCode h
  exact h1
theorem loop1 {σ : Type} {t : KT} {QD : List (St → Prop)} {QR : CRes → Prop} (S : σ → St) (Inv : σ → Prop) (m : σ → Nat) (a0 : σ) (h0 : t.atLoop = some (S a0)) (hi : Inv a0)
    (hr : ∀ a, Inv a → (t.round Pg cfg0 rs0 kc1 (S a)).wp Pg cfg0 evp ((fun s => ∃ a', (Inv a' ∧ m a' < m a) ∧ s = S a') :: QD) QR) : t.wp Pg cfg0 evp QD QR :=
  kt_loop (rs := rs0) (kc := kc1) S Inv m a0 (fun _ => hkc1) h0 hi hr
noncomputable def shL2 : List (Nat × KM) := [(f_names_low, .con (some (resSh Pg f_names_low)) none false),
  (f_names_high, .con (some (resSh Pg f_names_high)) none false),
  (f_names_digit, .con (some (resSh Pg f_names_digit)) none false),
  (f_names_Right, .con (some (resSh Pg f_names_Right)) none false),
  (f_names_Tyvar, .con (some (resSh Pg f_names_Tyvar)) none false),
  (f_names_Path, .con (some (resSh Pg f_names_Path)) none false),
  (f_names_Reserved, .con (some (resSh Pg f_names_Reserved)) none false),
  (f_names_Lower, .con (some (resSh Pg f_names_Lower)) none false),
  (f_names_Upper, .con (some (resSh Pg f_names_Upper)) none false),
  (f_tree_lowName, .con (some (resSh Pg f_tree_lowName)) (some (y_tree_wrong, .int .i64)) false),
  (f_tree_highName, .con (some (resSh Pg f_tree_highName)) (some (y_tree_wrong, .int .i64)) false),
  (f_tree_lowPath, .con (some (resSh Pg f_tree_lowPath)) (some (y_tree_wrong, .int .i64)) false),
  (f_tree_highPath, .con (some (resSh Pg f_tree_highPath)) (some (y_tree_wrong, .int .i64)) false),
  (f_tree_ask, .con (some (resSh Pg f_tree_ask)) (some (y_tree_wrong, .int .i64)) false),
  (f_tree_count, .con (some (resSh Pg f_tree_count)) (some (y_tree_wrong, .int .i64)) false),
  (f_tree_basic, .con (some (resSh Pg f_tree_basic)) none false),
  (f_tree_parts, .con (some (resSh Pg f_tree_parts)) none false),
  (f_tree_each_string, .con (some (resSh Pg f_tree_each_string)) (some (y_tree_wrong, .int .i64)) false),
  (f_tree_each_api_Ty, .con (some (resSh Pg f_tree_each_api_Ty)) (some (y_tree_wrong, .int .i64)) false),
  (f_tree_each_api_Pat, .con (some (resSh Pg f_tree_each_api_Pat)) (some (y_tree_wrong, .int .i64)) false),
  (f_tree_each_api_Exp, .con (some (resSh Pg f_tree_each_api_Exp)) (some (y_tree_wrong, .int .i64)) false),
  (f_tree_each_api_Con, .con (some (resSh Pg f_tree_each_api_Con)) (some (y_tree_wrong, .int .i64)) false),
  (f_tree_each_api_Dec, .con (some (resSh Pg f_tree_each_api_Dec)) (some (y_tree_wrong, .int .i64)) false),
  (f_tree_each_api_Mod, .con (some (resSh Pg f_tree_each_api_Mod)) (some (y_tree_wrong, .int .i64)) false),
  (f_tree_each_api_Sig, .con (some (resSh Pg f_tree_each_api_Sig)) (some (y_tree_wrong, .int .i64)) false),
  (f_tree_each_api_Spec, .con (some (resSh Pg f_tree_each_api_Spec)) (some (y_tree_wrong, .int .i64)) false),
  (f_tree_ty, .con (some (resSh Pg f_tree_ty)) (some (y_tree_wrong, .int .i64)) false),
  (f_tree_pat, .con (some (resSh Pg f_tree_pat)) (some (y_tree_wrong, .int .i64)) false),
  (f_tree_exp, .con (some (resSh Pg f_tree_exp)) (some (y_tree_wrong, .int .i64)) false),
  (f_tree_con, .con (some (resSh Pg f_tree_con)) (some (y_tree_wrong, .int .i64)) false),
  (f_tree_dec, .con (some (resSh Pg f_tree_dec)) (some (y_tree_wrong, .int .i64)) false),
  (f_tree_mod, .con (some (resSh Pg f_tree_mod)) (some (y_tree_wrong, .int .i64)) false),
  (f_tree_sig, .con (some (resSh Pg f_tree_sig)) (some (y_tree_wrong, .int .i64)) false),
  (f_tree_spec, .con (some (resSh Pg f_tree_spec)) (some (y_tree_wrong, .int .i64)) false),
  (f_tree_exp_1, .con (some (resSh Pg f_tree_exp_1)) (some (y_tree_wrong, .int .i64)) false)]
noncomputable def sh2 : FuncId → KM := fun f => match shL2.lookup f with
  | some k => k
  | none => .inl false
@[irreducible] noncomputable def kc2 : KC := kcalls Pg cfg0 rs0 sh2 12
@[irreducible] noncomputable def kt2 (f : FuncId) (args : List AV) (H : Heap) : KT := ktree Pg cfg0 rs0 sh2 12 false f args .none H
@[irreducible] noncomputable def ktc2 (f : FuncId) (args : List AV) (H : Heap) : KT := ktree Pg cfg0 rs0 sh2 12 true f args .none H
theorem hkc2 {QD : List (St → Prop)} {QR : CRes → Prop} : KCS Pg cfg0 evp QD QR kc2 := by
  delta kc2
  exact kcalls_sound ev_byCode 12 _
theorem kt2_ev {f : FuncId} {args : List AV} {H : Heap} {r : CRes} (h : (kt2 f args H).wp Pg cfg0 evp [] (fun x => x = r)) : evp f args .none H = some r := by
  delta kt2 at h
  obtain ⟨x, h1, rfl⟩ := ktree_sound ev_byCode h
  exact h1
theorem ktc2_ev {f : FuncId} {args : List AV} {H : Heap} {r : CRes} (h : (ktc2 f args H).wp Pg cfg0 evp [] (fun x => x = r)) : evp f args .none H = some r := by
  delta ktc2 at h
  obtain ⟨x, h1, rfl⟩ := ktree_sound ev_byCode h
  exact h1
theorem loop2 {σ : Type} {t : KT} {QD : List (St → Prop)} {QR : CRes → Prop} (S : σ → St) (Inv : σ → Prop) (m : σ → Nat) (a0 : σ) (h0 : t.atLoop = some (S a0)) (hi : Inv a0)
    (hr : ∀ a, Inv a → (t.round Pg cfg0 rs0 kc2 (S a)).wp Pg cfg0 evp ((fun s => ∃ a', (Inv a' ∧ m a' < m a) ∧ s = S a') :: QD) QR) : t.wp Pg cfg0 evp QD QR :=
  kt_loop (rs := rs0) (kc := kc2) S Inv m a0 (fun _ => hkc2) h0 hi hr
noncomputable def shL3 : List (Nat × KM) := [(f_tree_Nodes, .con (some (resSh Pg f_tree_Nodes)) none false),
  (f_tree_walker_decs, .con (some (.arg 0)) none true),
  (f_tree_dec, .con (some (resSh Pg f_tree_dec)) (some (y_tree_wrong, .int .i64)) false),
  (f_tree_caught, .inl true)]
noncomputable def sh3 : FuncId → KM := fun f => match shL3.lookup f with
  | some k => k
  | none => .inl false
@[irreducible] noncomputable def kc3 : KC := kcalls Pg cfg0 rs0 sh3 12
@[irreducible] noncomputable def kt3 (f : FuncId) (args : List AV) (H : Heap) : KT := ktree Pg cfg0 rs0 sh3 12 false f args .none H
@[irreducible] noncomputable def ktc3 (f : FuncId) (args : List AV) (H : Heap) : KT := ktree Pg cfg0 rs0 sh3 12 true f args .none H
theorem hkc3 {QD : List (St → Prop)} {QR : CRes → Prop} : KCS Pg cfg0 evp QD QR kc3 := by
  delta kc3
  exact kcalls_sound ev_byCode 12 _
theorem kt3_ev {f : FuncId} {args : List AV} {H : Heap} {r : CRes} (h : (kt3 f args H).wp Pg cfg0 evp [] (fun x => x = r)) : evp f args .none H = some r := by
  delta kt3 at h
  obtain ⟨x, h1, rfl⟩ := ktree_sound ev_byCode h
  exact h1
theorem ktc3_ev {f : FuncId} {args : List AV} {H : Heap} {r : CRes} (h : (ktc3 f args H).wp Pg cfg0 evp [] (fun x => x = r)) : evp f args .none H = some r := by
  delta ktc3 at h
  obtain ⟨x, h1, rfl⟩ := ktree_sound ev_byCode h
  exact h1
theorem loop3 {σ : Type} {t : KT} {QD : List (St → Prop)} {QR : CRes → Prop} (S : σ → St) (Inv : σ → Prop) (m : σ → Nat) (a0 : σ) (h0 : t.atLoop = some (S a0)) (hi : Inv a0)
    (hr : ∀ a, Inv a → (t.round Pg cfg0 rs0 kc3 (S a)).wp Pg cfg0 evp ((fun s => ∃ a', (Inv a' ∧ m a' < m a) ∧ s = S a') :: QD) QR) : t.wp Pg cfg0 evp QD QR :=
  kt_loop (rs := rs0) (kc := kc3) S Inv m a0 (fun _ => hkc3) h0 hi hr
end Go.Proofs
