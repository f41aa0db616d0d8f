import Derived.Test.YtnohjjhgdkpgcaaDoorProg
import Derived.Test.YtnohjjhgdkpgcaaDoorE30
import Derived.KernelRfl
open Go Go.Eng
namespace Go.Proofs
noncomputable abbrev Pg : Program := Tryd.prog
def cutB : Nat := 2 ^ cutBit
def cfgL : List FCfg := [⟨0, 0, 0, 0, [], false, false⟩,
  ⟨0, 0, 0, 0, [], false, false⟩,
  ⟨0, 0, 0, 0, [], false, false⟩,
  ⟨0, 0, 0, 0, [(0, 1600), (1000005, 72)], false, false⟩,
  ⟨0, 0, 0, 0, [(0, 201), (1000011, 457), (1000014, 393)], false, false⟩,
  ⟨0, 0, 0, 0, [(1000004, 135), (1000010, 1155)], false, false⟩,
  ⟨0, 0, 0, 0, [(1000005, 291)], false, false⟩,
  ⟨0, 0, 0, 0, [], false, false⟩,
  ⟨0, 0, 0, 0, [], false, false⟩,
  ⟨0, 512, 35184372088864, 0, [(0, 97), (1000013, 1697)], false, false⟩,
  ⟨0, 256, 549755813920, 0, [(0, 225)], false, false⟩,
  ⟨0, 0, 0, 0, [], false, false⟩,
  ⟨0, 0, 2060, 0, [(0, 25)], false, false⟩,
  ⟨0, 0, 0, 0, [], false, false⟩,
  ⟨0, 32, 4104, 0, [(0, 456)], false, false⟩,
  ⟨0, 0, 2060, 0, [(0, 25)], false, false⟩,
  ⟨0, 0, 73736, 0, [(0, 25), (1000007, 25)], false, false⟩,
  ⟨0, 0, 0, 0, [(0, 35)], false, false⟩,
  ⟨0, 0, 0, 0, [(0, 3)], false, false⟩,
  ⟨0, 80, 0, 0, [(1, 135399691796838467567091731), (1000015, 1043), (1000018, 19)], false, false⟩,
  ⟨0, 0, 0, 0, [(0, 3)], false, false⟩,
  ⟨0, 80, 0, 0, [(1, 211), (1000010, 211), (1000015, 83), (1000027, 211)], false, false⟩,
  ⟨0, 768, 0, 0, [(0, 229382)], false, false⟩,
  ⟨12, 0, 0, 0, [], false, false⟩,
  ⟨0, 0, 0, 0, [(1, 3848290697251), (3, 64563604257983430914), (1000010, 35), (1000011, 35), (1000016, 3848290697379)], false, false⟩,
  ⟨0, 12, 0, 0, [(1000003, 13), (1000004, 13), (1000006, 13), (1000011, 13), (1000012, 13)], false, false⟩,
  ⟨0, 0, 0, 0, [], false, false⟩,
  ⟨0, 0, 0, 0, [(0, 35)], false, false⟩,
  ⟨0, 320, 0, 0, [(1000006, 320)], false, false⟩,
  ⟨0, 0, 0, 0, [(0, 7)], false, false⟩,
  ⟨2, 0, 0, 0, [], false, false⟩,
  ⟨0, 0, 0, 0, [], false, false⟩,
  ⟨2, 0, 0, 0, [], false, false⟩,
  ⟨0, 0, 0, 0, [], false, false⟩,
  ⟨0, 0, 0, 0, [], false, false⟩,
  ⟨0, 0, 0, 0, [], false, false⟩,
  ⟨0, 0, 0, 0, [(0, 35)], false, false⟩,
  ⟨0, 0, 0, 0, [], false, false⟩,
  ⟨0, 0, 0, 0, [], false, false⟩,
  ⟨0, 0, 0, 0, [(0, 7)], false, false⟩,
  ⟨0, 0, 0, 0, [], false, false⟩,
  ⟨0, 0, 0, 0, [], false, false⟩,
  ⟨0, 0, 0, 0, [(0, 49)], false, false⟩,
  ⟨0, 0, 0, 0, [(0, 99), (1000003, 3)], false, false⟩,
  ⟨0, 0, 0, 0, [(1000003, 3)], false, false⟩,
  ⟨0, 0, 4096, 0, [], false, false⟩,
  ⟨0, 0, 0, 0, [], false, false⟩,
  ⟨0, 0, 0, 0, [], false, false⟩,
  ⟨2, 0, 0, 0, [], false, false⟩,
  ⟨0, 0, 0, 0, [], false, false⟩,
  ⟨0, 0, 0, 0, [(1000010, 263), (1000014, 772), (1000016, 772), (1000019, 1792), (1000021, 768)], false, false⟩,
  ⟨0, 0, 0, 0, [], false, false⟩,
  ⟨0, 0, 0, 0, [(1, 897), (3, 4993), (5, 50049), (7, 115585), (9, 47890485652059026823698344598447161988085597568237568), (1000011, 897)], false, false⟩,
  ⟨0, 0, 0, 0, [(0, 35)], false, false⟩,
  ⟨0, 0, 1, 0, [], false, false⟩,
  ⟨0, 0, 0, 0, [], false, false⟩,
  ⟨0, 0, 134217744, 0, [], false, false⟩,
  ⟨0, 0, 0, 0, [(3, 4436777100798802905238461234946), (1000021, 775), (1000025, 775), (1000032, 1799), (1000046, 4436777100798802905238461300482)], false, false⟩,
  ⟨0, 0, 0, 0, [], false, false⟩,
  ⟨0, 0, 0, 0, [], false, false⟩,
  ⟨0, 0, 0, 0, [], false, false⟩,
  ⟨0, 0, 0, 0, [], false, false⟩,
  ⟨0, 0, 0, 0, [], false, false⟩,
  ⟨0, 0, 0, 0, [], false, false⟩,
  ⟨0, 0, 0, 0, [], false, false⟩,
  ⟨0, 0, 0, 0, [], false, false⟩,
  ⟨0, 0, 0, 0, [], false, false⟩,
  ⟨0, 0, 0, 0, [], false, false⟩,
  ⟨0, 0, 0, 0, [], false, false⟩,
  ⟨0, 0, 0, 0, [(0, 57), (1000005, 25), (1000014, 57)], false, false⟩,
  ⟨0, 0, 0, 0, [], false, false⟩,
  ⟨0, 0, 0, 0, [], false, false⟩,
  ⟨0, 0, 0, 0, [], false, false⟩,
  ⟨0, 0, 0, 0, [], false, false⟩,
  ⟨0, 0, 0, 0, [], false, false⟩,
  ⟨0, 0, 0, 0, [], false, false⟩,
  ⟨0, 0, 0, 0, [(1000004, 1), (1000008, 97)], false, false⟩,
  ⟨0, 0, 0, 0, [], false, false⟩,
  ⟨0, 0, 0, 0, [], false, false⟩,
  ⟨0, 0, 0, 0, [(0, 19), (1000020, 4113), (1000025, 4113)], false, false⟩,
  ⟨0, 0, 39614081257132168796771975168, 1, [(0, 130075), (2, 146459), (1000003, 3103), (1000007, 15391), (1000025, 15385), (1000028, 15377)], false, false⟩,
  ⟨0, 0, 0, 0, [], false, false⟩,
  ⟨0, 0, 0, 0, [(1000004, 5), (1000007, 5), (1000010, 5)], false, false⟩,
  ⟨0, 0, 0, 0, [], false, false⟩,
  ⟨0, 0, 0, 0, [], false, false⟩,
  ⟨0, 0, 0, 0, [], false, false⟩,
  ⟨0, 0, 0, 0, [], false, false⟩,
  ⟨0, 0, 0, 0, [], false, false⟩,
  ⟨0, 0, 0, 0, [], false, false⟩,
  ⟨0, 0, 0, 0, [], false, false⟩,
  ⟨0, 0, 0, 0, [], false, false⟩,
  ⟨0, 0, 0, 0, [], false, false⟩,
  ⟨0, 0, 0, 0, [], false, false⟩,
  ⟨0, 0, 0, 0, [], false, false⟩,
  ⟨0, 0, 0, 0, [], false, false⟩,
  ⟨0, 0, 0, 0, [], false, false⟩,
  ⟨0, 0, 0, 0, [], false, false⟩,
  ⟨0, 0, 0, 0, [], false, false⟩,
  ⟨0, 0, 0, 0, [], false, false⟩,
  ⟨0, 0, 0, 0, [], false, false⟩,
  ⟨0, 0, 0, 0, [], false, false⟩,
  ⟨0, 0, 0, 0, [], false, false⟩,
  ⟨0, 0, 0, 0, [], false, false⟩,
  ⟨0, 0, 0, 0, [], false, false⟩,
  ⟨0, 0, 0, 0, [], false, false⟩,
  ⟨0, 0, 0, 0, [], false, false⟩,
  ⟨0, 0, 0, 0, [], false, false⟩,
  ⟨0, 0, 0, 0, [], false, false⟩,
  ⟨0, 0, 0, 0, [], false, false⟩,
  ⟨0, 0, 0, 0, [], false, false⟩,
  ⟨0, 0, 0, 0, [], false, false⟩,
  ⟨0, 0, 0, 0, [], false, false⟩,
  ⟨0, 0, 0, 0, [], false, false⟩,
  ⟨0, 0, 0, 0, [], false, false⟩,
  ⟨0, 0, 0, 0, [], false, false⟩,
  ⟨0, 0, 0, 0, [], false, false⟩,
  ⟨0, 0, 0, 0, [], false, false⟩]

abbrev f_main_main : Nat := 0
abbrev f_gosem_cut : Nat := 1
abbrev f_gosem_cut_init : Nat := 2
abbrev f_waferlaw03_LexLexes : Nat := 3
abbrev f_waferlaw03_LexCovers : Nat := 4
abbrev f_waferlaw03_LexBlanks : Nat := 5
abbrev f_waferlaw03_LexSplits : Nat := 6
abbrev f_waferlaw03_LexJoins : Nat := 7
abbrev f_waferlaw03_LexBack : Nat := 8
abbrev f_lex_Lex : Nat := 9
abbrev f_waferref03_Lex : Nat := 10
abbrev f_waferlaw03_alive : Nat := 11
abbrev f_waferlaw03_Theirs : Nat := 12
abbrev f_lex_Same : Nat := 13
abbrev f_lex_Join : Nat := 14
abbrev f_waferlaw03_Own : Nat := 15
abbrev f_waferref03_Join : Nat := 16
abbrev f_waferref03_Same : Nat := 17
abbrev f_lex_skipped : Nat := 18
abbrev f_lex_one : Nat := 19
abbrev f_waferref03_skip : Nat := 20
abbrev f_waferref03_next : Nat := 21
abbrev f_slices_EqualFunc_lex_Token_lex_Token_lex_Token_lex_Token : Nat := 22
abbrev f_lex_Same_1 : Nat := 23
abbrev f_strings_Join : Nat := 24
abbrev f_lex_sorted : Nat := 25
abbrev f_strings_HasPrefix : Nat := 26
abbrev f_lex_remark : Nat := 27
abbrev f_lex_word : Nat := 28
abbrev f_lex_run : Nat := 29
abbrev f_lex_one_1 : Nat := 30
abbrev f_strconv_ParseInt : Nat := 31
abbrev f_lex_one_2 : Nat := 32
abbrev f_strings_ContainsRune : Nat := 33
abbrev f_waferref03_blank : Nat := 34
abbrev f_waferref03_two : Nat := 35
abbrev f_waferref03_remark : Nat := 36
abbrev f_waferref03_low : Nat := 37
abbrev f_waferref03_high : Nat := 38
abbrev f_waferref03_run : Nat := 39
abbrev f_waferref02_Reserved : Nat := 40
abbrev f_waferref03_digit : Nat := 41
abbrev f_waferref03_number : Nat := 42
abbrev f_waferref03_mark : Nat := 43
abbrev f_strings_Builder_Grow : Nat := 44
abbrev f_strings_Builder_WriteString : Nat := 45
abbrev f_strings_Builder_String : Nat := 46
abbrev f_stringslite_HasPrefix : Nat := 47
abbrev f_lex_word_1 : Nat := 48
abbrev f_names_Reserved : Nat := 49
abbrev f_strconv_ParseInt_50 : Nat := 50
abbrev f_strconv_toError : Nat := 51
abbrev f_strings_IndexRune : Nat := 52
abbrev f_waferref02_Has : Nat := 53
abbrev f_waferref02_Words : Nat := 54
abbrev f_strings_Builder_copyCheck : Nat := 55
abbrev f_strings_Builder_grow : Nat := 56
abbrev f_strconv_ParseUint : Nat := 57
abbrev f_strconv_syntaxError : Nat := 58
abbrev f_strconv_rangeError : Nat := 59
abbrev f_strconv_baseError : Nat := 60
abbrev f_strconv_bitSizeError : Nat := 61
abbrev f_strings_IndexByte : Nat := 62
abbrev f_unicode_utf8_ValidRune : Nat := 63
abbrev f_bytealg_Cutover : Nat := 64
abbrev f_bytealg_IndexString : Nat := 65
abbrev f_abi_NoEscape : Nat := 66
abbrev f_bytealg_MakeNoZero : Nat := 67
abbrev f_strconv_lower : Nat := 68
abbrev f_strconv_underscoreOK : Nat := 69
abbrev f_stringslite_Clone : Nat := 70
abbrev f_errors_New : Nat := 71
abbrev f_strconv_Itoa : Nat := 72
abbrev f_stringslite_IndexByte : Nat := 73
abbrev f_strconv_Itoa_74 : Nat := 74
abbrev f_bytealg_IndexByteString : Nat := 75
abbrev f_strconv_FormatInt : Nat := 76
abbrev f_strconv_small : Nat := 77
abbrev f_strconv_numDigits : Nat := 78
abbrev f_strconv_formatBase10 : Nat := 79
abbrev f_strconv_formatBits : Nat := 80
abbrev f_strconv_log10Pow2 : Nat := 81
abbrev f_math_bits_Len64 : Nat := 82
abbrev f_strconv_bool2_int : Nat := 83
abbrev f_strconv_isPowerOfTwo : Nat := 84
abbrev f_math_bits_TrailingZeros : Nat := 85
abbrev f_math_bits_TrailingZeros32 : Nat := 86
abbrev f_math_bits_TrailingZeros64 : Nat := 87
abbrev f_runtime_boundsError_Error : Nat := 88
abbrev f_runtime_boundsError_RuntimeError : Nat := 89
abbrev f_runtime_errorString_Error : Nat := 90
abbrev f_runtime_errorString_RuntimeError : Nat := 91
abbrev f_runtime_plainError_Error : Nat := 92
abbrev f_runtime_plainError_RuntimeError : Nat := 93
abbrev f_runtime_errorAddressString_Error : Nat := 94
abbrev f_runtime_errorAddressString_RuntimeError : Nat := 95
abbrev f_runtime_TypeAssertionError_Error : Nat := 96
abbrev f_runtime_TypeAssertionError_RuntimeError : Nat := 97
abbrev f_runtime_PanicNilError_Error : Nat := 98
abbrev f_runtime_PanicNilError_RuntimeError : Nat := 99
abbrev f_abi_Type_Align : Nat := 100
abbrev f_runtime_maps_unhashableTypeError_Error : Nat := 101
abbrev f_runtime_maps_unhashableTypeError_RuntimeError : Nat := 102
abbrev f_api_Errno_Error : Nat := 103
abbrev f_strings_Builder_Reset : Nat := 104
abbrev f_strconv_Error_Error : Nat := 105
abbrev f_strconv_NumError_Error : Nat := 106
abbrev f_errors_errorString_Error : Nat := 107
abbrev f_abi_Kind_String : Nat := 108
abbrev f_var_s_door_gosem_cut_vars_holds_initialisers_alone_see_the_manifest_s_row_cutvarsword_look_11_test_files_too : Nat := 109
abbrev f_var_s_door_strconv_uint64pow10_is_laid_by_its_own_initialiser_plain_data_look_11 : Nat := 110
abbrev f_var_s_door_math_bits_deBruijn32tab_is_laid_by_its_own_initialiser_plain_data_look_11 : Nat := 111
abbrev f_var_s_door_math_bits_deBruijn64tab_is_laid_by_its_own_initialiser_plain_data_look_11 : Nat := 112
abbrev f_var_s_door_strconv_ErrRange_is_laid_by_its_own_call_of_errors_New_on_one_literal_look_11 : Nat := 113
abbrev f_var_s_door_strconv_ErrSyntax_is_laid_by_its_own_call_of_errors_New_on_one_literal_look_11 : Nat := 114
abbrev f_var_s_door_the_look_of_gosem_cut_vars_went_over_the_folder_that_the_caller_named_as_the_repository_s_root_look_11 : Nat := 115
abbrev f_gosem_cut_vars : Nat := 116
abbrev y_ : Nat := 0
abbrev y_func : Nat := 1
abbrev y_int64 : Nat := 2
abbrev y_int : Nat := 3
abbrev y_bool : Nat := 4
abbrev y_uint8 : Nat := 5
abbrev y_abi_BoundsErrorCode : Nat := 6
abbrev y_struct_x_int64_y_int_signed_bool_code_abi_BoundsErrorCode : Nat := 7
abbrev y_runtime_boundsError : Nat := 8
abbrev y_string : Nat := 9
abbrev y_runtime_errorString : Nat := 10
abbrev y_runtime_plainError : Nat := 11
abbrev y_uintptr : Nat := 12
abbrev y_struct_msg_string_addr_uintptr : Nat := 13
abbrev y_runtime_errorAddressString : Nat := 14
abbrev y_p_runtime_TypeAssertionError : Nat := 15
abbrev y_p_runtime_PanicNilError : Nat := 16
abbrev y_p_abi_Type : Nat := 17
abbrev y_struct_typ_abi_Type : Nat := 18
abbrev y_maps_unhashableTypeError : Nat := 19
abbrev y_interface : Nat := 20
abbrev y_int32 : Nat := 21
abbrev y_s_lex_Token : Nat := 22
abbrev y_api_Errno : Nat := 23
abbrev y_lex_Token_int_api_Errno : Nat := 24
abbrev y_func_string_lex_Token_int_api_Errno : Nat := 25
abbrev y_s_waferref03_Token : Nat := 26
abbrev y_waferref03_Token_int_api_Errno : Nat := 27
abbrev y_func_string_waferref03_Token_int_api_Errno : Nat := 28
abbrev y_func_bool : Nat := 29
abbrev y_func_lex_Token_waferref03_Token : Nat := 30
abbrev y_struct_Kind_int_Text_string_N_int64_At_int : Nat := 31
abbrev y_waferref03_Token : Nat := 32
abbrev y_func_string_bool : Nat := 33
abbrev y_lex_Token : Nat := 34
abbrev y_func_lex_Token_lex_Token_bool : Nat := 35
abbrev y_func_string_int_int_bool : Nat := 36
abbrev y_func_string_string_bool : Nat := 37
abbrev y_func_lex_Token_string : Nat := 38
abbrev y_func_waferref03_Token_lex_Token : Nat := 39
abbrev y_func_waferref03_Token_string : Nat := 40
abbrev y_func_waferref03_Token_waferref03_Token_bool : Nat := 41
abbrev y_int_bool : Nat := 42
abbrev y_func_string_int_int_bool_43 : Nat := 43
abbrev y_lex_Token_api_Errno : Nat := 44
abbrev y_func_string_int_lex_Token_api_Errno : Nat := 45
abbrev y_waferref03_Token_api_Errno : Nat := 46
abbrev y_func_string_int_waferref03_Token_api_Errno : Nat := 47
abbrev y_func_lex_Token_lex_Token_func_lex_Token_lex_Token_bool_boo : Nat := 48
abbrev y_func_lex_Token_lex_Token_bool_49 : Nat := 49
abbrev y_s_string : Nat := 50
abbrev y_func_string_string_string : Nat := 51
abbrev y_s_uint8 : Nat := 52
abbrev y_struct_low_bool_high_bool_digit_bool_word_bool_tyvar_bool_ : Nat := 53
abbrev y_lex_sort : Nat := 54
abbrev y_func_uint8_lex_sort : Nat := 55
abbrev y_func_string_int_int : Nat := 56
abbrev y_func_string_int_bool_lex_Token_api_Errno : Nat := 57
abbrev y_func_string_int_func_lex_sort_bool_int : Nat := 58
abbrev y_func_lex_sort_bool : Nat := 59
abbrev y_interface_Error_string : Nat := 60
abbrev y_error : Nat := 61
abbrev y_int64_error : Nat := 62
abbrev y_func_string_int_int_int64_error : Nat := 63
abbrev y_func_string_int32_bool : Nat := 64
abbrev y_func_uint8_bool : Nat := 65
abbrev y_func_string_int_string_bool : Nat := 66
abbrev y_func_string_int_bool_int : Nat := 67
abbrev y_int64_bool : Nat := 68
abbrev y_func_string_int64_bool : Nat := 69
abbrev y_p_strings_Builder : Nat := 70
abbrev y_struct_addr_strings_Builder_buf_uint8 : Nat := 71
abbrev y_strings_Builder : Nat := 72
abbrev y_func_int : Nat := 73
abbrev y_int_error : Nat := 74
abbrev y_func_string_int_error : Nat := 75
abbrev y_func_string : Nat := 76
abbrev y_func_string_string_int_int_error_error : Nat := 77
abbrev y_func_string_int32_int : Nat := 78
abbrev y_func_string_string_bool_79 : Nat := 79
abbrev y_func_string_80 : Nat := 80
abbrev y_uint64 : Nat := 81
abbrev y_p_uint8 : Nat := 82
abbrev y_strconv_Error : Nat := 83
abbrev y_uint64_error : Nat := 84
abbrev y_func_string_int_int_uint64_error : Nat := 85
abbrev y_uint : Nat := 86
abbrev y_p_strconv_NumError : Nat := 87
abbrev y_func_string_string_strconv_NumError : Nat := 88
abbrev y_func_string_string_int_strconv_NumError : Nat := 89
abbrev y_func_string_uint8_int : Nat := 90
abbrev y_func_int32_bool : Nat := 91
abbrev y_func_int_int : Nat := 92
abbrev y_func_string_string_int : Nat := 93
abbrev y_unsafe_Pointer : Nat := 94
abbrev y_func_unsafe_Pointer_unsafe_Pointer : Nat := 95
abbrev y_func_int_uint8 : Nat := 96
abbrev y_func_uint8_uint8 : Nat := 97
abbrev y_func_string_string : Nat := 98
abbrev y_struct_Func_string_Num_string_Err_error : Nat := 99
abbrev y_strconv_NumError : Nat := 100
abbrev y_func_string_error : Nat := 101
abbrev y_func_int_string : Nat := 102
abbrev y_p_errors_errorString : Nat := 103
abbrev y_struct_s_string : Nat := 104
abbrev y_errors_errorString : Nat := 105
abbrev y_func_int64_int_string : Nat := 106
abbrev y_24_uint8 : Nat := 107
abbrev y_func_uint64_int : Nat := 108
abbrev y_func_uint8_uint64 : Nat := 109
abbrev y_uint8_string : Nat := 110
abbrev y_func_uint8_uint64_int_bool_bool_uint8_string : Nat := 111
abbrev y_func_bool_int : Nat := 112
abbrev y_20_uint64 : Nat := 113
abbrev y_uint32 : Nat := 114
abbrev y_65_uint8 : Nat := 115
abbrev y_func_int_bool : Nat := 116
abbrev y_func_uint_int : Nat := 117
abbrev y_func_uint32_int : Nat := 118
abbrev y_32_uint8 : Nat := 119
abbrev y_64_uint8 : Nat := 120
abbrev y_struct_interface_abi_Type_concrete_abi_Type_asserted_abi_T : Nat := 121
abbrev y_runtime_TypeAssertionError : Nat := 122
abbrev y_0_runtime_PanicNilError : Nat := 123
abbrev y_struct_0_runtime_PanicNilError : Nat := 124
abbrev y_runtime_PanicNilError : Nat := 125
abbrev y_func_int_126 : Nat := 126
abbrev y_abi_TFlag : Nat := 127
abbrev y_abi_Kind : Nat := 128
abbrev y_func_unsafe_Pointer_unsafe_Pointer_bool : Nat := 129
abbrev y_abi_NameOff : Nat := 130
abbrev y_abi_TypeOff : Nat := 131
abbrev y_struct_Size_uintptr_PtrBytes_uintptr_Hash_uint32_TFlag_abi : Nat := 132
abbrev y_abi_Type : Nat := 133
noncomputable def rs0 : TypeId → List KSh := rowSh Pg
def extL : List (Nat × (List AV → Option AV)) := [(f_strings_IndexByte, xIndexByte),
  (f_strconv_ParseInt, xParseInt y_p_strconv_NumError),
  (f_strings_Join, xJoin)]
def gx : PExt := fun f => extL.lookup f
def extIds : Nat := (extL.map fun p => 2 ^ p.1).foldl (· ||| ·) 0
def normIds : Nat := 0 ||| 2 ^ f_lex_Lex ||| 2 ^ f_waferref03_Lex ||| 2 ^ f_waferlaw03_Own ||| 2 ^ f_waferlaw03_Theirs
def cfg0 : FuncId → FCfg := fun f => { cfgL.getD f default with ext := extIds.testBit f, norm := normIds.testBit f }
theorem hx0 : ∀ f, (cfg0 f).ext = false → gx.ext f = none := by
  have key : (extL.all fun p => extIds.testBit p.1) = true := by kernel_rfl
  intro f h
  have h1 : extIds.testBit f = false := h
  have h2 : gx f = none := by
    cases hg : gx f with
    | none => rfl
    | some e =>
      have : (f, e) ∈ extL := List.lookup_eq_some_iff.1 hg |>.elim fun l ⟨r, h, _⟩ => by rw [h]; simp
      have := List.all_eq_true.1 key _ this
      simp only at this
      rw [h1] at this; cases this
  unfold PExt.ext; rw [h2]; rfl
noncomputable abbrev evp : CallF := ev Pg cfg0 gx.ext
noncomputable def shL0 : List (Nat × KM) := []
noncomputable def sh0 : FuncId → KM := fun f => match shL0.lookup f with
  | some k => k
  | none => .inl false
@[irreducible] noncomputable def kc0 : KC := kcalls Pg cfg0 rs0 sh0 12
@[irreducible] noncomputable def kt0 (f : FuncId) (args : List AV) (H : Heap) : KT := ktree Pg cfg0 rs0 sh0 12 false f args .none H
@[irreducible] noncomputable def ktc0 (f : FuncId) (args : List AV) (H : Heap) : KT := ktree Pg cfg0 rs0 sh0 12 true f args .none H
theorem hkc0 {QD : List (St → Prop)} {QR : CRes → Prop} : KCS Pg cfg0 evp QD QR kc0 := by
  delta kc0
  exact kcalls_sound (ev_byCode hx0) 12 _
theorem kt0_ev {f : FuncId} {args : List AV} {H : Heap} {r : CRes} (h : (kt0 f args H).wp Pg cfg0 evp [] (fun x => x = r)) : evp f args .none H = some r := by
  delta kt0 at h
  obtain ⟨x, h1, rfl⟩ := ktree_sound (ev_byCode hx0) h
  exact h1
theorem ktc0_ev {f : FuncId} {args : List AV} {H : Heap} {r : CRes} (h : (ktc0 f args H).wp Pg cfg0 evp [] (fun x => x = r)) : evp f args .none H = some r := by
  delta ktc0 at h
  obtain ⟨x, h1, rfl⟩ := ktree_sound (ev_byCode hx0) h
  exact h1
theorem loop0 {σ : Type} {t : KT} {QD : List (St → Prop)} {QR : CRes → Prop} (S : σ → St) (Inv : σ → Prop) (m : σ → Nat) (a0 : σ) (h0 : t.atLoop = some (S a0)) (hi : Inv a0)
    (hr : ∀ a, Inv a → (t.round Pg cfg0 rs0 kc0 (S a)).wp Pg cfg0 evp ((fun s => ∃ a', (Inv a' ∧ m a' < m a) ∧ s = S a') :: QD) QR) : t.wp Pg cfg0 evp QD QR :=
  kt_loop (rs := rs0) (kc := kc0) S Inv m a0 (fun _ => hkc0) h0 hi hr
noncomputable def shL1 : List (Nat × KM) := []
noncomputable def sh1 : FuncId → KM := fun f => match shL1.lookup f with
  | some k => k
  | none => .inl false
@[irreducible] noncomputable def kc1 : KC := kcalls Pg cfg0 rs0 sh1 12
@[irreducible] noncomputable def kt1 (f : FuncId) (args : List AV) (H : Heap) : KT := ktree Pg cfg0 rs0 sh1 12 false f args .none H
@[irreducible] noncomputable def ktc1 (f : FuncId) (args : List AV) (H : Heap) : KT := ktree Pg cfg0 rs0 sh1 12 true f args .none H
theorem hkc1 {QD : List (St → Prop)} {QR : CRes → Prop} : KCS Pg cfg0 evp QD QR kc1 := by
  delta kc1
  exact kcalls_sound (ev_byCode hx0) 12 _
theorem kt1_ev {f : FuncId} {args : List AV} {H : Heap} {r : CRes} (h : (kt1 f args H).wp Pg cfg0 evp [] (fun x => x = r)) : evp f args .none H = some r := by
  delta kt1 at h
  obtain ⟨x, h1, rfl⟩ := ktree_sound (ev_byCode hx0) h
  exact h1
theorem ktc1_ev {f : FuncId} {args : List AV} {H : Heap} {r : CRes} (h : (ktc1 f args H).wp Pg cfg0 evp [] (fun x => x = r)) : evp f args .none H = some r := by
  delta ktc1 at h
  obtain ⟨x, h1, rfl⟩ := ktree_sound (ev_byCode hx0) h
  exact h1
theorem loop1 {σ : Type} {t : KT} {QD : List (St → Prop)} {QR : CRes → Prop} (S : σ → St) (Inv : σ → Prop) (m : σ → Nat) (a0 : σ) (h0 : t.atLoop = some (S a0)) (hi : Inv a0)
    (hr : ∀ a, Inv a → (t.round Pg cfg0 rs0 kc1 (S a)).wp Pg cfg0 evp ((fun s => ∃ a', (Inv a' ∧ m a' < m a) ∧ s = S a') :: QD) QR) : t.wp Pg cfg0 evp QD QR :=
  kt_loop (rs := rs0) (kc := kc1) S Inv m a0 (fun _ => hkc1) h0 hi hr
noncomputable def shL2 : List (Nat × KM) := [(f_names_Reserved, .con (some (resSh Pg f_names_Reserved)) none false)]
noncomputable def sh2 : FuncId → KM := fun f => match shL2.lookup f with
  | some k => k
  | none => .inl false
@[irreducible] noncomputable def kc2 : KC := kcalls Pg cfg0 rs0 sh2 12
@[irreducible] noncomputable def kt2 (f : FuncId) (args : List AV) (H : Heap) : KT := ktree Pg cfg0 rs0 sh2 12 false f args .none H
@[irreducible] noncomputable def ktc2 (f : FuncId) (args : List AV) (H : Heap) : KT := ktree Pg cfg0 rs0 sh2 12 true f args .none H
theorem hkc2 {QD : List (St → Prop)} {QR : CRes → Prop} : KCS Pg cfg0 evp QD QR kc2 := by
  delta kc2
  exact kcalls_sound (ev_byCode hx0) 12 _
theorem kt2_ev {f : FuncId} {args : List AV} {H : Heap} {r : CRes} (h : (kt2 f args H).wp Pg cfg0 evp [] (fun x => x = r)) : evp f args .none H = some r := by
  delta kt2 at h
  obtain ⟨x, h1, rfl⟩ := ktree_sound (ev_byCode hx0) h
  exact h1
theorem ktc2_ev {f : FuncId} {args : List AV} {H : Heap} {r : CRes} (h : (ktc2 f args H).wp Pg cfg0 evp [] (fun x => x = r)) : evp f args .none H = some r := by
  delta ktc2 at h
  obtain ⟨x, h1, rfl⟩ := ktree_sound (ev_byCode hx0) h
  exact h1
theorem loop2 {σ : Type} {t : KT} {QD : List (St → Prop)} {QR : CRes → Prop} (S : σ → St) (Inv : σ → Prop) (m : σ → Nat) (a0 : σ) (h0 : t.atLoop = some (S a0)) (hi : Inv a0)
    (hr : ∀ a, Inv a → (t.round Pg cfg0 rs0 kc2 (S a)).wp Pg cfg0 evp ((fun s => ∃ a', (Inv a' ∧ m a' < m a) ∧ s = S a') :: QD) QR) : t.wp Pg cfg0 evp QD QR :=
  kt_loop (rs := rs0) (kc := kc2) S Inv m a0 (fun _ => hkc2) h0 hi hr
noncomputable def shL3 : List (Nat × KM) := [(f_lex_sorted, .con (some (resSh Pg f_lex_sorted)) none false),
  (f_lex_run, .con (some (resSh Pg f_lex_run)) none false),
  (f_lex_skipped, .con (some (resSh Pg f_lex_skipped)) none false),
  (f_lex_remark, .con (some (resSh Pg f_lex_remark)) none false),
  (f_lex_word, .con (some (resSh Pg f_lex_word)) none false),
  (f_lex_one, .con (some (resSh Pg f_lex_one)) none false),
  (f_lex_Lex, .con (some (resSh Pg f_lex_Lex)) none false),
  (f_lex_Same, .con (some (resSh Pg f_lex_Same)) none false),
  (f_lex_Join, .con (some (resSh Pg f_lex_Join)) none false),
  (f_names_Reserved, .con (some (resSh Pg f_names_Reserved)) none false),
  (f_strings_HasPrefix, .con (some (resSh Pg f_strings_HasPrefix)) none false),
  (f_strings_ContainsRune, .con (some (resSh Pg f_strings_ContainsRune)) none false),
  (f_strings_Join, .con (some (resSh Pg f_strings_Join)) none false),
  (f_strconv_ParseInt, .con (some (.tup [.int .i64, .alt (.const (.val .nilIface)) (.const (.iface y_p_strconv_NumError .any))])) none false),
  (f_waferref03_Lex, .con (some (resSh Pg f_waferref03_Lex)) none false),
  (f_waferref03_Join, .con (some (resSh Pg f_waferref03_Join)) none false),
  (f_waferref03_Same, .con (some (resSh Pg f_waferref03_Same)) none false),
  (f_waferref03_skip, .con (some (resSh Pg f_waferref03_skip)) none false),
  (f_waferref03_next, .con (some (resSh Pg f_waferref03_next)) none false),
  (f_waferref03_blank, .con (some (resSh Pg f_waferref03_blank)) none false),
  (f_waferref03_two, .con (some (resSh Pg f_waferref03_two)) none false),
  (f_waferref03_remark, .con (some (resSh Pg f_waferref03_remark)) none false),
  (f_waferref03_low, .con (some (resSh Pg f_waferref03_low)) none false),
  (f_waferref03_high, .con (some (resSh Pg f_waferref03_high)) none false),
  (f_waferref03_digit, .con (some (resSh Pg f_waferref03_digit)) none false),
  (f_waferref03_run, .con (some (resSh Pg f_waferref03_run)) none false),
  (f_waferref03_number, .con (some (resSh Pg f_waferref03_number)) none false),
  (f_waferref03_mark, .con (some (resSh Pg f_waferref03_mark)) none false),
  (f_waferref02_Reserved, .con (some (resSh Pg f_waferref02_Reserved)) none false),
  (f_waferref02_Has, .con (some (resSh Pg f_waferref02_Has)) none false),
  (f_waferlaw03_alive, .con (some (resSh Pg f_waferlaw03_alive)) none false),
  (f_waferlaw03_Own, .con (some (resSh Pg f_waferlaw03_Own)) none false),
  (f_waferlaw03_Theirs, .con (some (resSh Pg f_waferlaw03_Theirs)) none false)]
noncomputable def sh3 : FuncId → KM := fun f => match shL3.lookup f with
  | some k => k
  | none => .inl false
@[irreducible] noncomputable def kc3 : KC := kcalls Pg cfg0 rs0 sh3 12
@[irreducible] noncomputable def kt3 (f : FuncId) (args : List AV) (H : Heap) : KT := ktree Pg cfg0 rs0 sh3 12 false f args .none H
@[irreducible] noncomputable def ktc3 (f : FuncId) (args : List AV) (H : Heap) : KT := ktree Pg cfg0 rs0 sh3 12 true f args .none H
theorem hkc3 {QD : List (St → Prop)} {QR : CRes → Prop} : KCS Pg cfg0 evp QD QR kc3 := by
  delta kc3
  exact kcalls_sound (ev_byCode hx0) 12 _
theorem kt3_ev {f : FuncId} {args : List AV} {H : Heap} {r : CRes} (h : (kt3 f args H).wp Pg cfg0 evp [] (fun x => x = r)) : evp f args .none H = some r := by
  delta kt3 at h
  obtain ⟨x, h1, rfl⟩ := ktree_sound (ev_byCode hx0) h
  exact h1
theorem ktc3_ev {f : FuncId} {args : List AV} {H : Heap} {r : CRes} (h : (ktc3 f args H).wp Pg cfg0 evp [] (fun x => x = r)) : evp f args .none H = some r := by
  delta ktc3 at h
  obtain ⟨x, h1, rfl⟩ := ktree_sound (ev_byCode hx0) h
  exact h1
theorem loop3 {σ : Type} {t : KT} {QD : List (St → Prop)} {QR : CRes → Prop} (S : σ → St) (Inv : σ → Prop) (m : σ → Nat) (a0 : σ) (h0 : t.atLoop = some (S a0)) (hi : Inv a0)
    (hr : ∀ a, Inv a → (t.round Pg cfg0 rs0 kc3 (S a)).wp Pg cfg0 evp ((fun s => ∃ a', (Inv a' ∧ m a' < m a) ∧ s = S a') :: QD) QR) : t.wp Pg cfg0 evp QD QR :=
  kt_loop (rs := rs0) (kc := kc3) S Inv m a0 (fun _ => hkc3) h0 hi hr
end Go.Proofs
