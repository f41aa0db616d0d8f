/- the checks' trees (printed by gen_x.py and kt.py) -/
import Derived.Test.YtgimppnhjfjeaaaInv
open Go Go.Eng
namespace Go.Proofs
set_option linter.unusedVariables false
set_option maxRecDepth 100000
@[irreducible] noncomputable def X_eachTy_ty (l : List (List AV)) : KT := kt2 f_tree_each_api_Ty [.slice 4 l .no, .func (.func f_tree_ty) [] []] []
@[irreducible] noncomputable def X_eachPat_pat (l : List (List AV)) : KT := kt2 f_tree_each_api_Pat [.slice 5 l .no, .func (.func f_tree_pat) [] []] []
@[irreducible] noncomputable def X_eachExp_exp (l : List (List AV)) : KT := kt2 f_tree_each_api_Exp [.slice 8 l .no, .func (.func f_tree_exp) [] []] []
@[irreducible] noncomputable def X_eachCon_con (l : List (List AV)) : KT := kt2 f_tree_each_api_Con [.slice 2 l .no, .func (.func f_tree_con) [] []] []
@[irreducible] noncomputable def X_eachDec_dec (l : List (List AV)) : KT := kt2 f_tree_each_api_Dec [.slice 9 l .no, .func (.func f_tree_dec) [] []] []
@[irreducible] noncomputable def X_eachDec_exp_1 (l : List (List AV)) : KT := kt2 f_tree_each_api_Dec [.slice 9 l .no, .func (.func f_tree_exp_1) [] []] []
@[irreducible] noncomputable def X_eachMod_mod (l : List (List AV)) : KT := kt2 f_tree_each_api_Mod [.slice 5 l .no, .func (.func f_tree_mod) [] []] []
@[irreducible] noncomputable def X_eachSig_sig (l : List (List AV)) : KT := kt2 f_tree_each_api_Sig [.slice 5 l .no, .func (.func f_tree_sig) [] []] []
@[irreducible] noncomputable def X_eachSpec_spec (l : List (List AV)) : KT := kt2 f_tree_each_api_Spec [.slice 6 l .no, .func (.func f_tree_spec) [] []] []
@[irreducible] noncomputable def X_eachstring_lowName (l : List (List AV)) : KT := kt2 f_tree_each_string [.slice 1 l .no, .func (.func f_tree_lowName) [] []] []
@[irreducible] noncomputable def X_eachstring_highName (l : List (List AV)) : KT := kt2 f_tree_each_string [.slice 1 l .no, .func (.func f_tree_highName) [] []] []
@[irreducible] noncomputable def Y_Right (s : ByteArray) : KT := (kt2 f_names_Right [vS s] []).K ⟨tm2 52 [(0, (vS (s)))], lm2 52 [], ⟨[], [], .none, 0⟩⟩
@[irreducible] noncomputable def Y_Tyvar (s : ByteArray) : KT := (kt2 f_names_Tyvar [vS s] []).K ⟨tm2 35 [(0, (vS (s)))], lm2 35 [], ⟨[], [], .none, 0⟩⟩
@[irreducible] noncomputable def Y_Path (p : List (List AV)) : KT := (kt2 f_names_Path [.slice 1 p .no] []).F.F
@[irreducible] noncomputable def X_low (c : UInt8) : KT := kt2 f_names_low [AV.val (Value.int IntKind.u8 (↑c.toNat : Int))] []
theorem X_low_eq (c : UInt8) : kt2 f_names_low [AV.val (Value.int IntKind.u8 (↑c.toNat : Int))] [] =
  (.branch (decide ((↑c.toNat : Int) ≥ 97))
 (.need true
  (.ret ⟨(.ret (vB (decide ((↑c.toNat : Int) ≤ 122)))), .none, []⟩))
 (.need true
  (.ret ⟨(.ret (vB false)), .none, []⟩))) := by kernel_rfl

@[irreducible] noncomputable def X_high (c : UInt8) : KT := kt2 f_names_high [AV.val (Value.int IntKind.u8 (↑c.toNat : Int))] []
theorem X_high_eq (c : UInt8) : kt2 f_names_high [AV.val (Value.int IntKind.u8 (↑c.toNat : Int))] [] =
  (.branch (decide ((↑c.toNat : Int) ≥ 65))
 (.need true
  (.ret ⟨(.ret (vB (decide ((↑c.toNat : Int) ≤ 90)))), .none, []⟩))
 (.need true
  (.ret ⟨(.ret (vB false)), .none, []⟩))) := by kernel_rfl

@[irreducible] noncomputable def X_digit (c : UInt8) : KT := kt2 f_names_digit [AV.val (Value.int IntKind.u8 (↑c.toNat : Int))] []
theorem X_digit_eq (c : UInt8) : kt2 f_names_digit [AV.val (Value.int IntKind.u8 (↑c.toNat : Int))] [] =
  (.branch (decide ((↑c.toNat : Int) ≥ 48))
 (.need true
  (.ret ⟨(.ret (vB (decide ((↑c.toNat : Int) ≤ 57)))), .none, []⟩))
 (.need true
  (.ret ⟨(.ret (vB false)), .none, []⟩))) := by kernel_rfl

@[irreducible] noncomputable def X_Reserved (s : ByteArray) : KT := kt2 f_names_Reserved [vS s] []
theorem X_Reserved_eq (s : ByteArray) : kt2 f_names_Reserved [vS s] [] =
  (.branch (s.toList == (⟨#[98, 111, 111, 108]⟩ : ByteArray).toList)
 (.need true
  (.ret ⟨(.ret (vB true)), .none, []⟩))
 (.branch (s.toList == (⟨#[99, 97, 115, 101]⟩ : ByteArray).toList)
  (.need true
   (.ret ⟨(.ret (vB true)), .none, []⟩))
  (.branch (s.toList == (⟨#[100, 97, 116, 97]⟩ : ByteArray).toList)
   (.need true
    (.ret ⟨(.ret (vB true)), .none, []⟩))
   (.branch (s.toList == (⟨#[101, 108, 115, 101]⟩ : ByteArray).toList)
    (.need true
     (.ret ⟨(.ret (vB true)), .none, []⟩))
    (.branch (s.toList == (⟨#[101, 110, 100]⟩ : ByteArray).toList)
     (.need true
      (.ret ⟨(.ret (vB true)), .none, []⟩))
     (.branch (s.toList == (⟨#[102, 97, 108, 115, 101]⟩ : ByteArray).toList)
      (.need true
       (.ret ⟨(.ret (vB true)), .none, []⟩))
      (.branch (s.toList == (⟨#[102, 110]⟩ : ByteArray).toList)
       (.need true
        (.ret ⟨(.ret (vB true)), .none, []⟩))
       (.branch (s.toList == (⟨#[102, 117, 110]⟩ : ByteArray).toList)
        (.need true
         (.ret ⟨(.ret (vB true)), .none, []⟩))
        (.branch (s.toList == (⟨#[102, 117, 110, 99, 116, 111, 114]⟩ : ByteArray).toList)
         (.need true
          (.ret ⟨(.ret (vB true)), .none, []⟩))
         (.branch (s.toList == (⟨#[105, 102]⟩ : ByteArray).toList)
          (.need true
           (.ret ⟨(.ret (vB true)), .none, []⟩))
          (.branch (s.toList == (⟨#[105, 110]⟩ : ByteArray).toList)
           (.need true
            (.ret ⟨(.ret (vB true)), .none, []⟩))
           (.branch (s.toList == (⟨#[105, 110, 116]⟩ : ByteArray).toList)
            (.need true
             (.ret ⟨(.ret (vB true)), .none, []⟩))
            (.branch (s.toList == (⟨#[108, 101, 116]⟩ : ByteArray).toList)
             (.need true
              (.ret ⟨(.ret (vB true)), .none, []⟩))
             (.branch (s.toList == (⟨#[111, 102]⟩ : ByteArray).toList)
              (.need true
               (.ret ⟨(.ret (vB true)), .none, []⟩))
              (.branch (s.toList == (⟨#[115, 105, 103]⟩ : ByteArray).toList)
               (.need true
                (.ret ⟨(.ret (vB true)), .none, []⟩))
               (.branch (s.toList == (⟨#[115, 105, 103, 110, 97, 116, 117, 114, 101]⟩ : ByteArray).toList)
                (.need true
                 (.ret ⟨(.ret (vB true)), .none, []⟩))
                (.branch (s.toList == (⟨#[115, 116, 114, 117, 99, 116]⟩ : ByteArray).toList)
                 (.need true
                  (.ret ⟨(.ret (vB true)), .none, []⟩))
                 (.branch (s.toList == (⟨#[115, 116, 114, 117, 99, 116, 117, 114, 101]⟩ : ByteArray).toList)
                  (.need true
                   (.ret ⟨(.ret (vB true)), .none, []⟩))
                  (.branch (s.toList == (⟨#[116, 104, 101, 110]⟩ : ByteArray).toList)
                   (.need true
                    (.ret ⟨(.ret (vB true)), .none, []⟩))
                   (.branch (s.toList == (⟨#[116, 114, 117, 101]⟩ : ByteArray).toList)
                    (.need true
                     (.ret ⟨(.ret (vB true)), .none, []⟩))
                    (.branch (s.toList == (⟨#[116, 121, 112, 101]⟩ : ByteArray).toList)
                     (.need true
                      (.ret ⟨(.ret (vB true)), .none, []⟩))
                     (.branch (s.toList == (⟨#[117, 110, 105, 116]⟩ : ByteArray).toList)
                      (.need true
                       (.ret ⟨(.ret (vB true)), .none, []⟩))
                      (.branch (s.toList == (⟨#[118, 97, 108]⟩ : ByteArray).toList)
                       (.need true
                        (.ret ⟨(.ret (vB true)), .none, []⟩))
                       (.branch (s.toList == (⟨#[119, 104, 101, 114, 101]⟩ : ByteArray).toList)
                        (.need true
                         (.ret ⟨(.ret (vB true)), .none, []⟩))
                        (.need true
                         (.ret ⟨(.ret (vB false)), .none, []⟩)))))))))))))))))))))))))) := by kernel_rfl

@[irreducible] noncomputable def X_Right (s : ByteArray) : KT := kt2 f_names_Right [vS s] []
theorem X_Right_eq (s : ByteArray) : kt2 f_names_Right [vS s] [] =
  (.stage
 (.branch (s.toList == (⟨#[]⟩ : ByteArray).toList)
  (.out (.need true
   (.ret ⟨(.ret (vI (12))), .none, []⟩)))
  (.exY fun y =>
   (.byte (s) (0) (y)
    (.exB fun b =>
     (.call f_names_low [(.val (.int .u8 ((↑y.toNat : Int))))] .none [] ⟨(.ret (vB (b))), .none, []⟩
      (.branch (!b)
       (.exY fun y1 =>
        (.byte (s) (0) (y1)
         (.exB fun b1 =>
          (.call f_names_high [(.val (.int .u8 ((↑y1.toNat : Int))))] .none [] ⟨(.ret (vB (b1))), .none, []⟩
           (.branch (!b1)
            (.out (.need true
             (.ret ⟨(.ret (vI (12))), .none, []⟩)))
            (.done ⟨tm2 52 [(0, (vS (s)))], lm2 52 [], ⟨[], [], .none, 0⟩⟩))))))
       (.done ⟨tm2 52 [(0, (vS (s)))], lm2 52 [], ⟨[], [], .none, 0⟩⟩)))))))
 ((X_Right s).K)) := by kernel_rfl

@[irreducible] noncomputable def X_Rights1 (s : ByteArray) : KT := (X_Right s).K ⟨tm2 52 [(0, (vS (s)))], lm2 52 [], ⟨[], [], .none, 0⟩⟩
theorem X_Rights1_eq (s : ByteArray) : (X_Right s).K ⟨tm2 52 [(0, (vS (s)))], lm2 52 [], ⟨[], [], .none, 0⟩⟩ =
  ((X_Rights1 s)) /- LOOP f_names_Right block 0 at ⟨tm2 52 [(0, (vS (s))), (20, (vI ((↑s.size : Int)))), (21, (vI (0)))], lm2 52 [], ⟨[], [], .none, 0⟩⟩ -/ := by kernel_rfl

@[irreducible] noncomputable def X_Tyvar (s : ByteArray) : KT := kt2 f_names_Tyvar [vS s] []
theorem X_Tyvar_eq (s : ByteArray) : kt2 f_names_Tyvar [vS s] [] =
  (.stage
 (.branch (s.toList == (⟨#[]⟩ : ByteArray).toList)
  (.out (.need true
   (.ret ⟨(.ret (vB false)), .none, []⟩)))
  (.branch (decide ((↑s.size : Int) ≥ 32))
   (.out (.need true
    (.ret ⟨(.ret (vB false)), .none, []⟩)))
   (.exY fun y =>
    (.byte (s) (0) (y)
     (.exB fun b =>
      (.call f_names_low [(.val (.int .u8 ((↑y.toNat : Int))))] .none [] ⟨(.ret (vB (b))), .none, []⟩
       (.branch (!b)
        (.out (.need true
         (.ret ⟨(.ret (vB false)), .none, []⟩)))
        (.done ⟨tm2 35 [(0, (vS (s)))], lm2 35 [], ⟨[], [], .none, 0⟩⟩))))))))
 ((X_Tyvar s).K)) := by kernel_rfl

@[irreducible] noncomputable def X_Tyvars1 (s : ByteArray) : KT := (X_Tyvar s).K ⟨tm2 35 [(0, (vS (s)))], lm2 35 [], ⟨[], [], .none, 0⟩⟩
theorem X_Tyvars1_eq (s : ByteArray) : (X_Tyvar s).K ⟨tm2 35 [(0, (vS (s)))], lm2 35 [], ⟨[], [], .none, 0⟩⟩ =
  ((X_Tyvars1 s)) /- LOOP f_names_Tyvar block 0 at ⟨tm2 35 [(0, (vS (s))), (18, (vI ((↑s.size : Int)))), (19, (vI (0)))], lm2 35 [], ⟨[], [], .none, 0⟩⟩ -/ := by kernel_rfl

@[irreducible] noncomputable def X_Lower (s : ByteArray) : KT := kt2 f_names_Lower [vS s] []
theorem X_Lower_eq (s : ByteArray) : kt2 f_names_Lower [vS s] [] =
  (.exI fun i =>
 (.call f_names_Right [(vS (s))] .none [] ⟨(.ret (vI (i))), .none, []⟩
  (.branch (i == 0)
   (.exY fun y =>
    (.byte (s) (0) (y)
     (.exB fun b =>
      (.call f_names_low [(.val (.int .u8 ((↑y.toNat : Int))))] .none [] ⟨(.ret (vB (b))), .none, []⟩
       (.need true
        (.ret ⟨(.ret (vB (b))), .none, []⟩))))))
   (.need true
    (.ret ⟨(.ret (vB false)), .none, []⟩))))) := by kernel_rfl

@[irreducible] noncomputable def X_Upper (s : ByteArray) : KT := kt2 f_names_Upper [vS s] []
theorem X_Upper_eq (s : ByteArray) : kt2 f_names_Upper [vS s] [] =
  (.exI fun i =>
 (.call f_names_Right [(vS (s))] .none [] ⟨(.ret (vI (i))), .none, []⟩
  (.branch (i == 0)
   (.exY fun y =>
    (.byte (s) (0) (y)
     (.exB fun b =>
      (.call f_names_high [(.val (.int .u8 ((↑y.toNat : Int))))] .none [] ⟨(.ret (vB (b))), .none, []⟩
       (.need true
        (.ret ⟨(.ret (vB (b))), .none, []⟩))))))
   (.need true
    (.ret ⟨(.ret (vB false)), .none, []⟩))))) := by kernel_rfl

@[irreducible] noncomputable def X_Path (p : List (List AV)) : KT := kt2 f_names_Path [AV.slice 1 p Own.no] []
theorem X_Path_eq (p : List (List AV)) : kt2 f_names_Path [AV.slice 1 p Own.no] [] =
  (.branch ((↑p.length : Int) == 0)
 (.need true
  (.ret ⟨(.ret (vI (1))), .none, []⟩))
 (.branch (decide ((↑p.length : Int) > 8))
  (.need true
   (.ret ⟨(.ret (vI (3))), .none, []⟩))
  ((X_Path p).F.F) /- LOOP f_names_Path block 1 at ⟨tm2 38 [(0, (.slice 1 (p) .no)), (14, (.slice 1 (p) .no)), (15, (vI ((↑p.length : Int)))), (16, (vI (0)))], lm2 38 [], ⟨[], [], .none, 0⟩⟩ -/)) := by kernel_rfl

@[irreducible] noncomputable def X_ask (b : Bool) : KT := kt2 f_tree_ask [vB b] []
theorem X_ask_eq (b : Bool) : kt2 f_tree_ask [vB b] [] =
  (.branch (!b)
 (.need true
  (.need true
   (.ret ⟨(.panic (.iface y_tree_wrong (vI (1)))), .none, []⟩)))
 (.need true
  (.ret ⟨(.ret (.tuple [])), .none, []⟩))) := by kernel_rfl

@[irreducible] noncomputable def X_count (n : Int) (l : Int) (m : Int) : KT := kt2 f_tree_count [vI n, vI l, vI m] []
theorem X_count_eq (n : Int) (l : Int) (m : Int) : kt2 f_tree_count [vI n, vI l, vI m] [] =
  (.branch (decide (n ≥ l))
 (.branch (decide (m < 0))
  (.alt
   (.call f_tree_ask [(vB true)] .none [] ⟨(.ret (.tuple [])), .none, []⟩
    (.need true
     (.ret ⟨(.ret (.tuple [])), .none, []⟩)))
   (.exI fun i =>
    (.call f_tree_ask [(vB true)] .none [] ⟨(.panic (.iface y_tree_wrong (vI (i)))), .none, []⟩
     (.need true
      (.ret ⟨(.panic (.iface y_tree_wrong (vI (i)))), .none, []⟩)))))
  (.alt
   (.call f_tree_ask [(vB (decide (n ≤ m)))] .none [] ⟨(.ret (.tuple [])), .none, []⟩
    (.need true
     (.ret ⟨(.ret (.tuple [])), .none, []⟩)))
   (.exI fun i =>
    (.call f_tree_ask [(vB (decide (n ≤ m)))] .none [] ⟨(.panic (.iface y_tree_wrong (vI (i)))), .none, []⟩
     (.need true
      (.ret ⟨(.panic (.iface y_tree_wrong (vI (i)))), .none, []⟩))))))
 (.alt
  (.call f_tree_ask [(vB false)] .none [] ⟨(.ret (.tuple [])), .none, []⟩
   (.need true
    (.ret ⟨(.ret (.tuple [])), .none, []⟩)))
  (.exI fun i =>
   (.call f_tree_ask [(vB false)] .none [] ⟨(.panic (.iface y_tree_wrong (vI (i)))), .none, []⟩
    (.need true
     (.ret ⟨(.panic (.iface y_tree_wrong (vI (i)))), .none, []⟩)))))) := by kernel_rfl

@[irreducible] noncomputable def X_parts (k : Int) : KT := kt2 f_tree_parts [vI k] []
theorem X_parts_eq (k : Int) : kt2 f_tree_parts [vI k] [] =
  (.branch (k == 7)
 (.need true
  (.ret ⟨(.ret (.tuple [(vI (1)), (vI (1)), (vI (0))])), .none, []⟩))
 (.branch (k == 8)
  (.need true
   (.ret ⟨(.ret (.tuple [(vI (0)), (vI (2)), (vI (0))])), .none, []⟩))
  (.branch (k == 9)
   (.need true
    (.ret ⟨(.ret (.tuple [(vI (0)), (vI (2)), (vI (0))])), .none, []⟩))
   (.branch (k == 13)
    (.need true
     (.ret ⟨(.ret (.tuple [(vI (0)), (vI (2)), (vI (0))])), .none, []⟩))
    (.branch (k == 10)
     (.need true
      (.ret ⟨(.ret (.tuple [(vI (0)), (vI (1)), (vI (0))])), .none, []⟩))
     (.branch (k == 11)
      (.need true
       (.ret ⟨(.ret (.tuple [(vI (0)), (vI (3)), (vI (0))])), .none, []⟩))
      (.branch (k == 12)
       (.need true
        (.ret ⟨(.ret (.tuple [(vI (-1)), (vI (-1)), (vI (0))])), .none, []⟩))
       (.branch (k == 14)
        (.need true
         (.ret ⟨(.ret (.tuple [(vI (0)), (vI (1)), (vI (1))])), .none, []⟩))
        (.need true
         (.ret ⟨(.ret (.tuple [(vI (0)), (vI (0)), (vI (0))])), .none, []⟩)))))))))) := by kernel_rfl

@[irreducible] noncomputable def X_lowName (s : ByteArray) : KT := kt2 f_tree_lowName [vS s] []
theorem X_lowName_eq (s : ByteArray) : kt2 f_tree_lowName [vS s] [] =
  (.exI fun i =>
 (.call f_names_Right [(vS (s))] .none [] ⟨(.ret (vI (i))), .none, []⟩
  (.branch (i != 0)
   (.need true
    (.need true
     (.ret ⟨(.panic (.iface y_tree_wrong (vI (i)))), .none, []⟩)))
   (.need true
    (.exB fun b =>
     (.call f_names_Lower [(vS (s))] .none [] ⟨(.ret (vB (b))), .none, []⟩
      (.branch (!b)
       (.need true
        (.need true
         (.ret ⟨(.panic (.iface y_tree_wrong (vI (12)))), .none, []⟩)))
       (.need true
        (.ret ⟨(.ret (.tuple [])), .none, []⟩))))))))) := by kernel_rfl

@[irreducible] noncomputable def X_highName (s : ByteArray) : KT := kt2 f_tree_highName [vS s] []
theorem X_highName_eq (s : ByteArray) : kt2 f_tree_highName [vS s] [] =
  (.exI fun i =>
 (.call f_names_Right [(vS (s))] .none [] ⟨(.ret (vI (i))), .none, []⟩
  (.branch (i != 0)
   (.need true
    (.need true
     (.ret ⟨(.panic (.iface y_tree_wrong (vI (i)))), .none, []⟩)))
   (.need true
    (.exB fun b =>
     (.call f_names_Upper [(vS (s))] .none [] ⟨(.ret (vB (b))), .none, []⟩
      (.branch (!b)
       (.need true
        (.need true
         (.ret ⟨(.panic (.iface y_tree_wrong (vI (12)))), .none, []⟩)))
       (.need true
        (.ret ⟨(.ret (.tuple [])), .none, []⟩))))))))) := by kernel_rfl

@[irreducible] noncomputable def X_lowPath (p : List (List AV)) : KT := kt2 f_tree_lowPath [AV.slice 1 p Own.no] []
theorem X_lowPath_eq (p : List (List AV)) : kt2 f_tree_lowPath [AV.slice 1 p Own.no] [] =
  (.exI fun i =>
 (.call f_names_Path [(.slice 1 (p) .no)] .none [] ⟨(.ret (vI (i))), .none, []⟩
  (.branch (i != 0)
   (.need true
    (.need true
     (.ret ⟨(.panic (.iface y_tree_wrong (vI (i)))), .none, []⟩)))
   (.need true
    (.exS fun s =>
     (.row (p) (IntKind.i64.wrap ((↑p.length : Int) - 1)) [(vS (s))]
      (.exB fun b =>
       (.call f_names_Lower [(vS (s))] .none [] ⟨(.ret (vB (b))), .none, []⟩
        (.branch (!b)
         (.need true
          (.need true
           (.ret ⟨(.panic (.iface y_tree_wrong (vI (12)))), .none, []⟩)))
         (.need true
          (.ret ⟨(.ret (.tuple [])), .none, []⟩))))))))))) := by kernel_rfl

@[irreducible] noncomputable def X_highPath (p : List (List AV)) : KT := kt2 f_tree_highPath [AV.slice 1 p Own.no] []
theorem X_highPath_eq (p : List (List AV)) : kt2 f_tree_highPath [AV.slice 1 p Own.no] [] =
  (.exI fun i =>
 (.call f_names_Path [(.slice 1 (p) .no)] .none [] ⟨(.ret (vI (i))), .none, []⟩
  (.branch (i != 0)
   (.need true
    (.need true
     (.ret ⟨(.panic (.iface y_tree_wrong (vI (i)))), .none, []⟩)))
   (.need true
    (.exS fun s =>
     (.row (p) (IntKind.i64.wrap ((↑p.length : Int) - 1)) [(vS (s))]
      (.exB fun b =>
       (.call f_names_Upper [(vS (s))] .none [] ⟨(.ret (vB (b))), .none, []⟩
        (.branch (!b)
         (.need true
          (.need true
           (.ret ⟨(.panic (.iface y_tree_wrong (vI (12)))), .none, []⟩)))
         (.need true
          (.ret ⟨(.ret (.tuple [])), .none, []⟩))))))))))) := by kernel_rfl

@[irreducible] noncomputable def X_basic (p : List (List AV)) : KT := kt2 f_tree_basic [AV.slice 1 p Own.no] []
theorem X_basic_eq (p : List (List AV)) : kt2 f_tree_basic [AV.slice 1 p Own.no] [] =
  (.branch ((↑p.length : Int) == 1)
 (.exS fun s =>
  (.row (p) (0) [(vS (s))]
   (.branch (s.toList == (⟨#[105, 110, 116]⟩ : ByteArray).toList)
    (.need true
     (.ret ⟨(.ret (vB true)), .none, []⟩))
    (.exS fun s1 =>
     (.row (p) (0) [(vS (s1))]
      (.branch (s1.toList == (⟨#[98, 111, 111, 108]⟩ : ByteArray).toList)
       (.need true
        (.ret ⟨(.ret (vB true)), .none, []⟩))
       (.exS fun s2 =>
        (.row (p) (0) [(vS (s2))]
         (.need true
          (.ret ⟨(.ret (vB (s2.toList == (⟨#[117, 110, 105, 116]⟩ : ByteArray).toList))), .none, []⟩))))))))))
 (.need true
  (.ret ⟨(.ret (vB false)), .none, []⟩))) := by kernel_rfl

@[irreducible] noncomputable def X_Ty (k : Int) (n : ByteArray) (p : List (List AV)) (a : List (List AV)) : KT := kt2 f_tree_ty [AV.agg [vI k, vS n, AV.slice 1 p Own.no, AV.slice 4 a Own.no]] []
theorem X_Ty_eq (k : Int) (n : ByteArray) (p : List (List AV)) (a : List (List AV)) : kt2 f_tree_ty [AV.agg [vI k, vS n, AV.slice 1 p Own.no, AV.slice 4 a Own.no]] [] =
  (.stage
 (.branch (decide (k ≥ 1))
  (.alt
   (.call f_tree_ask [(vB (decide (k ≤ 4)))] .none [] ⟨(.ret (.tuple [])), .none, []⟩
    (.done ⟨tm2 69 [(1, (.ref [(vI (k)), (vS (n)), (.slice 1 (p) .no), (.slice 4 (a) .no)]))], lm2 69 [], ⟨[], [], .none, 0⟩⟩))
   (.exI fun i =>
    (.call f_tree_ask [(vB (decide (k ≤ 4)))] .none [] ⟨(.panic (.iface y_tree_wrong (vI (i)))), .none, []⟩
     (.out (.need true
      (.ret ⟨(.panic (.iface y_tree_wrong (vI (i)))), .none, []⟩))))))
  (.alt
   (.call f_tree_ask [(vB false)] .none [] ⟨(.ret (.tuple [])), .none, []⟩
    (.done ⟨tm2 69 [(1, (.ref [(vI (k)), (vS (n)), (.slice 1 (p) .no), (.slice 4 (a) .no)]))], lm2 69 [], ⟨[], [], .none, 0⟩⟩))
   (.exI fun i =>
    (.call f_tree_ask [(vB false)] .none [] ⟨(.panic (.iface y_tree_wrong (vI (i)))), .none, []⟩
     (.out (.need true
      (.ret ⟨(.panic (.iface y_tree_wrong (vI (i)))), .none, []⟩)))))))
 ((X_Ty k n p a).K)) := by kernel_rfl

@[irreducible] noncomputable def X_Tys1 (k : Int) (n : ByteArray) (p : List (List AV)) (a : List (List AV)) : KT := (X_Ty k n p a).K ⟨tm2 69 [(1, (.ref [(vI (k)), (vS (n)), (.slice 1 (p) .no), (.slice 4 (a) .no)]))], lm2 69 [], ⟨[], [], .none, 0⟩⟩
theorem X_Tys1_eq (k : Int) (n : ByteArray) (p : List (List AV)) (a : List (List AV)) : (X_Ty k n p a).K ⟨tm2 69 [(1, (.ref [(vI (k)), (vS (n)), (.slice 1 (p) .no), (.slice 4 (a) .no)]))], lm2 69 [], ⟨[], [], .none, 0⟩⟩ =
  (.stage
 (.branch (k == 1)
  (.branch (k == 2)
   (.alt
    (.call f_tree_ask [(vB true)] .none [] ⟨(.ret (.tuple [])), .none, []⟩
     (.done ⟨tm2 69 [(1, (.ref [(vI (k)), (vS (n)), (.slice 1 (p) .no), (.slice 4 (a) .no)]))], lm2 69 [], ⟨[], [], .none, 0⟩⟩))
    (.exI fun i =>
     (.call f_tree_ask [(vB true)] .none [] ⟨(.panic (.iface y_tree_wrong (vI (i)))), .none, []⟩
      (.out (.need true
       (.ret ⟨(.panic (.iface y_tree_wrong (vI (i)))), .none, []⟩))))))
   (.alt
    (.call f_tree_ask [(vB ((↑p.length : Int) == 0))] .none [] ⟨(.ret (.tuple [])), .none, []⟩
     (.done ⟨tm2 69 [(1, (.ref [(vI (k)), (vS (n)), (.slice 1 (p) .no), (.slice 4 (a) .no)]))], lm2 69 [], ⟨[], [], .none, 0⟩⟩))
    (.exI fun i =>
     (.call f_tree_ask [(vB ((↑p.length : Int) == 0))] .none [] ⟨(.panic (.iface y_tree_wrong (vI (i)))), .none, []⟩
      (.out (.need true
       (.ret ⟨(.panic (.iface y_tree_wrong (vI (i)))), .none, []⟩)))))))
  (.branch (n.toList == (⟨#[]⟩ : ByteArray).toList)
   (.branch (k == 2)
    (.alt
     (.call f_tree_ask [(vB true)] .none [] ⟨(.ret (.tuple [])), .none, []⟩
      (.done ⟨tm2 69 [(1, (.ref [(vI (k)), (vS (n)), (.slice 1 (p) .no), (.slice 4 (a) .no)]))], lm2 69 [], ⟨[], [], .none, 0⟩⟩))
     (.exI fun i =>
      (.call f_tree_ask [(vB true)] .none [] ⟨(.panic (.iface y_tree_wrong (vI (i)))), .none, []⟩
       (.out (.need true
        (.ret ⟨(.panic (.iface y_tree_wrong (vI (i)))), .none, []⟩))))))
    (.alt
     (.call f_tree_ask [(vB ((↑p.length : Int) == 0))] .none [] ⟨(.ret (.tuple [])), .none, []⟩
      (.done ⟨tm2 69 [(1, (.ref [(vI (k)), (vS (n)), (.slice 1 (p) .no), (.slice 4 (a) .no)]))], lm2 69 [], ⟨[], [], .none, 0⟩⟩))
     (.exI fun i =>
      (.call f_tree_ask [(vB ((↑p.length : Int) == 0))] .none [] ⟨(.panic (.iface y_tree_wrong (vI (i)))), .none, []⟩
       (.out (.need true
        (.ret ⟨(.panic (.iface y_tree_wrong (vI (i)))), .none, []⟩)))))))
   (.alt
    (.call f_tree_ask [(vB false)] .none [] ⟨(.ret (.tuple [])), .none, []⟩
     (.done ⟨tm2 69 [(1, (.ref [(vI (k)), (vS (n)), (.slice 1 (p) .no), (.slice 4 (a) .no)]))], lm2 69 [], ⟨[], [], .none, 0⟩⟩))
    (.exI fun i =>
     (.call f_tree_ask [(vB false)] .none [] ⟨(.panic (.iface y_tree_wrong (vI (i)))), .none, []⟩
      (.out (.need true
       (.ret ⟨(.panic (.iface y_tree_wrong (vI (i)))), .none, []⟩))))))))
 ((X_Tys1 k n p a).K)) := by kernel_rfl

@[irreducible] noncomputable def X_Tys2 (k : Int) (n : ByteArray) (p : List (List AV)) (a : List (List AV)) : KT := (X_Tys1 k n p a).K ⟨tm2 69 [(1, (.ref [(vI (k)), (vS (n)), (.slice 1 (p) .no), (.slice 4 (a) .no)]))], lm2 69 [], ⟨[], [], .none, 0⟩⟩
theorem X_Tys2_eq (k : Int) (n : ByteArray) (p : List (List AV)) (a : List (List AV)) : (X_Tys1 k n p a).K ⟨tm2 69 [(1, (.ref [(vI (k)), (vS (n)), (.slice 1 (p) .no), (.slice 4 (a) .no)]))], lm2 69 [], ⟨[], [], .none, 0⟩⟩ =
  (.stage
 (.branch (decide (k ≥ 3))
  (.alt
   (.call f_tree_ask [(vB ((↑a.length : Int) == 2))] .none [] ⟨(.ret (.tuple [])), .none, []⟩
    (.done ⟨tm2 69 [(1, (.ref [(vI (k)), (vS (n)), (.slice 1 (p) .no), (.slice 4 (a) .no)]))], lm2 69 [], ⟨[], [], .none, 0⟩⟩))
   (.exI fun i =>
    (.call f_tree_ask [(vB ((↑a.length : Int) == 2))] .none [] ⟨(.panic (.iface y_tree_wrong (vI (i)))), .none, []⟩
     (.out (.need true
      (.ret ⟨(.panic (.iface y_tree_wrong (vI (i)))), .none, []⟩))))))
  (.alt
   (.call f_tree_ask [(vB ((↑a.length : Int) == 0))] .none [] ⟨(.ret (.tuple [])), .none, []⟩
    (.done ⟨tm2 69 [(1, (.ref [(vI (k)), (vS (n)), (.slice 1 (p) .no), (.slice 4 (a) .no)]))], lm2 69 [], ⟨[], [], .none, 0⟩⟩))
   (.exI fun i =>
    (.call f_tree_ask [(vB ((↑a.length : Int) == 0))] .none [] ⟨(.panic (.iface y_tree_wrong (vI (i)))), .none, []⟩
     (.out (.need true
      (.ret ⟨(.panic (.iface y_tree_wrong (vI (i)))), .none, []⟩)))))))
 ((X_Tys2 k n p a).K)) := by kernel_rfl

@[irreducible] noncomputable def X_Tys3 (k : Int) (n : ByteArray) (p : List (List AV)) (a : List (List AV)) : KT := (X_Tys2 k n p a).K ⟨tm2 69 [(1, (.ref [(vI (k)), (vS (n)), (.slice 1 (p) .no), (.slice 4 (a) .no)]))], lm2 69 [], ⟨[], [], .none, 0⟩⟩
theorem X_Tys3_eq (k : Int) (n : ByteArray) (p : List (List AV)) (a : List (List AV)) : (X_Tys2 k n p a).K ⟨tm2 69 [(1, (.ref [(vI (k)), (vS (n)), (.slice 1 (p) .no), (.slice 4 (a) .no)]))], lm2 69 [], ⟨[], [], .none, 0⟩⟩ =
  (.stage
 (.branch (k == 1)
  (.exB fun b =>
   (.call f_names_Tyvar [(vS (n))] .none [] ⟨(.ret (vB (b))), .none, []⟩
    (.branch (!b)
     (.need true
      (.out (.need true
       (.ret ⟨(.panic (.iface y_tree_wrong (vI (12)))), .none, []⟩))))
     (.done ⟨tm2 69 [(1, (.ref [(vI (k)), (vS (n)), (.slice 1 (p) .no), (.slice 4 (a) .no)]))], lm2 69 [], ⟨[], [], .none, 0⟩⟩))))
  (.done ⟨tm2 69 [(1, (.ref [(vI (k)), (vS (n)), (.slice 1 (p) .no), (.slice 4 (a) .no)]))], lm2 69 [], ⟨[], [], .none, 0⟩⟩))
 ((X_Tys3 k n p a).K)) := by kernel_rfl

@[irreducible] noncomputable def X_Tys4 (k : Int) (n : ByteArray) (p : List (List AV)) (a : List (List AV)) : KT := (X_Tys3 k n p a).K ⟨tm2 69 [(1, (.ref [(vI (k)), (vS (n)), (.slice 1 (p) .no), (.slice 4 (a) .no)]))], lm2 69 [], ⟨[], [], .none, 0⟩⟩
theorem X_Tys4_eq (k : Int) (n : ByteArray) (p : List (List AV)) (a : List (List AV)) : (X_Tys3 k n p a).K ⟨tm2 69 [(1, (.ref [(vI (k)), (vS (n)), (.slice 1 (p) .no), (.slice 4 (a) .no)]))], lm2 69 [], ⟨[], [], .none, 0⟩⟩ =
  (.branch (k == 2)
 (.exB fun b =>
  (.call f_tree_basic [(.slice 1 (p) .no)] .none [] ⟨(.ret (vB (b))), .none, []⟩
   (.branch (!b)
    (.alt
     (.call f_tree_lowPath [(.slice 1 (p) .no)] .none [] ⟨(.ret (.tuple [])), .none, []⟩
      (.alt
       (.call f_tree_each_api_Ty [(.slice 4 (a) .no), (.func (.func f_tree_ty) [] [])] .none [] ⟨(.ret (.tuple [])), .none, []⟩
        (.need true
         (.ret ⟨(.ret (.tuple [])), .none, []⟩)))
       (.exI fun i =>
        (.call f_tree_each_api_Ty [(.slice 4 (a) .no), (.func (.func f_tree_ty) [] [])] .none [] ⟨(.panic (.iface y_tree_wrong (vI (i)))), .none, []⟩
         (.need true
          (.ret ⟨(.panic (.iface y_tree_wrong (vI (i)))), .none, []⟩))))))
     (.exI fun i =>
      (.call f_tree_lowPath [(.slice 1 (p) .no)] .none [] ⟨(.panic (.iface y_tree_wrong (vI (i)))), .none, []⟩
       (.need true
        (.ret ⟨(.panic (.iface y_tree_wrong (vI (i)))), .none, []⟩)))))
    (.alt
     (.call f_tree_each_api_Ty [(.slice 4 (a) .no), (.func (.func f_tree_ty) [] [])] .none [] ⟨(.ret (.tuple [])), .none, []⟩
      (.need true
       (.ret ⟨(.ret (.tuple [])), .none, []⟩)))
     (.exI fun i =>
      (.call f_tree_each_api_Ty [(.slice 4 (a) .no), (.func (.func f_tree_ty) [] [])] .none [] ⟨(.panic (.iface y_tree_wrong (vI (i)))), .none, []⟩
       (.need true
        (.ret ⟨(.panic (.iface y_tree_wrong (vI (i)))), .none, []⟩))))))))
 (.alt
  (.call f_tree_each_api_Ty [(.slice 4 (a) .no), (.func (.func f_tree_ty) [] [])] .none [] ⟨(.ret (.tuple [])), .none, []⟩
   (.need true
    (.ret ⟨(.ret (.tuple [])), .none, []⟩)))
  (.exI fun i =>
   (.call f_tree_each_api_Ty [(.slice 4 (a) .no), (.func (.func f_tree_ty) [] [])] .none [] ⟨(.panic (.iface y_tree_wrong (vI (i)))), .none, []⟩
    (.need true
     (.ret ⟨(.panic (.iface y_tree_wrong (vI (i)))), .none, []⟩)))))) := by kernel_rfl

@[irreducible] noncomputable def X_Pat (k : Int) (n : ByteArray) (p : List (List AV)) (m : Int) (a : List (List AV)) : KT := kt2 f_tree_pat [AV.agg [vI k, vS n, AV.slice 1 p Own.no, vI m, AV.slice 5 a Own.no]] []
theorem X_Pat_eq (k : Int) (n : ByteArray) (p : List (List AV)) (m : Int) (a : List (List AV)) : kt2 f_tree_pat [AV.agg [vI k, vS n, AV.slice 1 p Own.no, vI m, AV.slice 5 a Own.no]] [] =
  (.stage
 (.branch (decide (k ≥ 1))
  (.alt
   (.call f_tree_ask [(vB (decide (k ≤ 8)))] .none [] ⟨(.ret (.tuple [])), .none, []⟩
    (.done ⟨tm2 82 [(1, (.ref [(vI (k)), (vS (n)), (.slice 1 (p) .no), (vI (m)), (.slice 5 (a) .no)]))], lm2 82 [], ⟨[], [], .none, 0⟩⟩))
   (.exI fun i =>
    (.call f_tree_ask [(vB (decide (k ≤ 8)))] .none [] ⟨(.panic (.iface y_tree_wrong (vI (i)))), .none, []⟩
     (.out (.need true
      (.ret ⟨(.panic (.iface y_tree_wrong (vI (i)))), .none, []⟩))))))
  (.alt
   (.call f_tree_ask [(vB false)] .none [] ⟨(.ret (.tuple [])), .none, []⟩
    (.done ⟨tm2 82 [(1, (.ref [(vI (k)), (vS (n)), (.slice 1 (p) .no), (vI (m)), (.slice 5 (a) .no)]))], lm2 82 [], ⟨[], [], .none, 0⟩⟩))
   (.exI fun i =>
    (.call f_tree_ask [(vB false)] .none [] ⟨(.panic (.iface y_tree_wrong (vI (i)))), .none, []⟩
     (.out (.need true
      (.ret ⟨(.panic (.iface y_tree_wrong (vI (i)))), .none, []⟩)))))))
 ((X_Pat k n p m a).K)) := by kernel_rfl

@[irreducible] noncomputable def X_Pats1 (k : Int) (n : ByteArray) (p : List (List AV)) (m : Int) (a : List (List AV)) : KT := (X_Pat k n p m a).K ⟨tm2 82 [(1, (.ref [(vI (k)), (vS (n)), (.slice 1 (p) .no), (vI (m)), (.slice 5 (a) .no)]))], lm2 82 [], ⟨[], [], .none, 0⟩⟩
theorem X_Pats1_eq (k : Int) (n : ByteArray) (p : List (List AV)) (m : Int) (a : List (List AV)) : (X_Pat k n p m a).K ⟨tm2 82 [(1, (.ref [(vI (k)), (vS (n)), (.slice 1 (p) .no), (vI (m)), (.slice 5 (a) .no)]))], lm2 82 [], ⟨[], [], .none, 0⟩⟩ =
  (.stage
 (.branch (k == 2)
  (.branch (k == 8)
   (.branch (k == 3)
    (.alt
     (.call f_tree_ask [(vB (decide (m ≥ 0)))] .none [] ⟨(.ret (.tuple [])), .none, []⟩
      (.done ⟨tm2 82 [(1, (.ref [(vI (k)), (vS (n)), (.slice 1 (p) .no), (vI (m)), (.slice 5 (a) .no)]))], lm2 82 [], ⟨[], [], .none, 0⟩⟩))
     (.exI fun i =>
      (.call f_tree_ask [(vB (decide (m ≥ 0)))] .none [] ⟨(.panic (.iface y_tree_wrong (vI (i)))), .none, []⟩
       (.out (.need true
        (.ret ⟨(.panic (.iface y_tree_wrong (vI (i)))), .none, []⟩))))))
    (.branch (m == 0)
     (.alt
      (.call f_tree_ask [(vB (decide (m ≥ 0)))] .none [] ⟨(.ret (.tuple [])), .none, []⟩
       (.done ⟨tm2 82 [(1, (.ref [(vI (k)), (vS (n)), (.slice 1 (p) .no), (vI (m)), (.slice 5 (a) .no)]))], lm2 82 [], ⟨[], [], .none, 0⟩⟩))
      (.exI fun i =>
       (.call f_tree_ask [(vB (decide (m ≥ 0)))] .none [] ⟨(.panic (.iface y_tree_wrong (vI (i)))), .none, []⟩
        (.out (.need true
         (.ret ⟨(.panic (.iface y_tree_wrong (vI (i)))), .none, []⟩))))))
     (.alt
      (.call f_tree_ask [(vB false)] .none [] ⟨(.ret (.tuple [])), .none, []⟩
       (.done ⟨tm2 82 [(1, (.ref [(vI (k)), (vS (n)), (.slice 1 (p) .no), (vI (m)), (.slice 5 (a) .no)]))], lm2 82 [], ⟨[], [], .none, 0⟩⟩))
      (.exI fun i =>
       (.call f_tree_ask [(vB false)] .none [] ⟨(.panic (.iface y_tree_wrong (vI (i)))), .none, []⟩
        (.out (.need true
         (.ret ⟨(.panic (.iface y_tree_wrong (vI (i)))), .none, []⟩))))))))
   (.branch ((↑p.length : Int) == 0)
    (.branch (k == 3)
     (.alt
      (.call f_tree_ask [(vB (decide (m ≥ 0)))] .none [] ⟨(.ret (.tuple [])), .none, []⟩
       (.done ⟨tm2 82 [(1, (.ref [(vI (k)), (vS (n)), (.slice 1 (p) .no), (vI (m)), (.slice 5 (a) .no)]))], lm2 82 [], ⟨[], [], .none, 0⟩⟩))
      (.exI fun i =>
       (.call f_tree_ask [(vB (decide (m ≥ 0)))] .none [] ⟨(.panic (.iface y_tree_wrong (vI (i)))), .none, []⟩
        (.out (.need true
         (.ret ⟨(.panic (.iface y_tree_wrong (vI (i)))), .none, []⟩))))))
     (.branch (m == 0)
      (.alt
       (.call f_tree_ask [(vB (decide (m ≥ 0)))] .none [] ⟨(.ret (.tuple [])), .none, []⟩
        (.done ⟨tm2 82 [(1, (.ref [(vI (k)), (vS (n)), (.slice 1 (p) .no), (vI (m)), (.slice 5 (a) .no)]))], lm2 82 [], ⟨[], [], .none, 0⟩⟩))
       (.exI fun i =>
        (.call f_tree_ask [(vB (decide (m ≥ 0)))] .none [] ⟨(.panic (.iface y_tree_wrong (vI (i)))), .none, []⟩
         (.out (.need true
          (.ret ⟨(.panic (.iface y_tree_wrong (vI (i)))), .none, []⟩))))))
      (.alt
       (.call f_tree_ask [(vB false)] .none [] ⟨(.ret (.tuple [])), .none, []⟩
        (.done ⟨tm2 82 [(1, (.ref [(vI (k)), (vS (n)), (.slice 1 (p) .no), (vI (m)), (.slice 5 (a) .no)]))], lm2 82 [], ⟨[], [], .none, 0⟩⟩))
       (.exI fun i =>
        (.call f_tree_ask [(vB false)] .none [] ⟨(.panic (.iface y_tree_wrong (vI (i)))), .none, []⟩
         (.out (.need true
          (.ret ⟨(.panic (.iface y_tree_wrong (vI (i)))), .none, []⟩))))))))
    (.alt
     (.call f_tree_ask [(vB false)] .none [] ⟨(.ret (.tuple [])), .none, []⟩
      (.done ⟨tm2 82 [(1, (.ref [(vI (k)), (vS (n)), (.slice 1 (p) .no), (vI (m)), (.slice 5 (a) .no)]))], lm2 82 [], ⟨[], [], .none, 0⟩⟩))
     (.exI fun i =>
      (.call f_tree_ask [(vB false)] .none [] ⟨(.panic (.iface y_tree_wrong (vI (i)))), .none, []⟩
       (.out (.need true
        (.ret ⟨(.panic (.iface y_tree_wrong (vI (i)))), .none, []⟩))))))))
  (.branch (n.toList == (⟨#[]⟩ : ByteArray).toList)
   (.branch (k == 8)
    (.branch (k == 3)
     (.alt
      (.call f_tree_ask [(vB (decide (m ≥ 0)))] .none [] ⟨(.ret (.tuple [])), .none, []⟩
       (.done ⟨tm2 82 [(1, (.ref [(vI (k)), (vS (n)), (.slice 1 (p) .no), (vI (m)), (.slice 5 (a) .no)]))], lm2 82 [], ⟨[], [], .none, 0⟩⟩))
      (.exI fun i =>
       (.call f_tree_ask [(vB (decide (m ≥ 0)))] .none [] ⟨(.panic (.iface y_tree_wrong (vI (i)))), .none, []⟩
        (.out (.need true
         (.ret ⟨(.panic (.iface y_tree_wrong (vI (i)))), .none, []⟩))))))
     (.branch (m == 0)
      (.alt
       (.call f_tree_ask [(vB (decide (m ≥ 0)))] .none [] ⟨(.ret (.tuple [])), .none, []⟩
        (.done ⟨tm2 82 [(1, (.ref [(vI (k)), (vS (n)), (.slice 1 (p) .no), (vI (m)), (.slice 5 (a) .no)]))], lm2 82 [], ⟨[], [], .none, 0⟩⟩))
       (.exI fun i =>
        (.call f_tree_ask [(vB (decide (m ≥ 0)))] .none [] ⟨(.panic (.iface y_tree_wrong (vI (i)))), .none, []⟩
         (.out (.need true
          (.ret ⟨(.panic (.iface y_tree_wrong (vI (i)))), .none, []⟩))))))
      (.alt
       (.call f_tree_ask [(vB false)] .none [] ⟨(.ret (.tuple [])), .none, []⟩
        (.done ⟨tm2 82 [(1, (.ref [(vI (k)), (vS (n)), (.slice 1 (p) .no), (vI (m)), (.slice 5 (a) .no)]))], lm2 82 [], ⟨[], [], .none, 0⟩⟩))
       (.exI fun i =>
        (.call f_tree_ask [(vB false)] .none [] ⟨(.panic (.iface y_tree_wrong (vI (i)))), .none, []⟩
         (.out (.need true
          (.ret ⟨(.panic (.iface y_tree_wrong (vI (i)))), .none, []⟩))))))))
    (.branch ((↑p.length : Int) == 0)
     (.branch (k == 3)
      (.alt
       (.call f_tree_ask [(vB (decide (m ≥ 0)))] .none [] ⟨(.ret (.tuple [])), .none, []⟩
        (.done ⟨tm2 82 [(1, (.ref [(vI (k)), (vS (n)), (.slice 1 (p) .no), (vI (m)), (.slice 5 (a) .no)]))], lm2 82 [], ⟨[], [], .none, 0⟩⟩))
       (.exI fun i =>
        (.call f_tree_ask [(vB (decide (m ≥ 0)))] .none [] ⟨(.panic (.iface y_tree_wrong (vI (i)))), .none, []⟩
         (.out (.need true
          (.ret ⟨(.panic (.iface y_tree_wrong (vI (i)))), .none, []⟩))))))
      (.branch (m == 0)
       (.alt
        (.call f_tree_ask [(vB (decide (m ≥ 0)))] .none [] ⟨(.ret (.tuple [])), .none, []⟩
         (.done ⟨tm2 82 [(1, (.ref [(vI (k)), (vS (n)), (.slice 1 (p) .no), (vI (m)), (.slice 5 (a) .no)]))], lm2 82 [], ⟨[], [], .none, 0⟩⟩))
        (.exI fun i =>
         (.call f_tree_ask [(vB (decide (m ≥ 0)))] .none [] ⟨(.panic (.iface y_tree_wrong (vI (i)))), .none, []⟩
          (.out (.need true
           (.ret ⟨(.panic (.iface y_tree_wrong (vI (i)))), .none, []⟩))))))
       (.alt
        (.call f_tree_ask [(vB false)] .none [] ⟨(.ret (.tuple [])), .none, []⟩
         (.done ⟨tm2 82 [(1, (.ref [(vI (k)), (vS (n)), (.slice 1 (p) .no), (vI (m)), (.slice 5 (a) .no)]))], lm2 82 [], ⟨[], [], .none, 0⟩⟩))
        (.exI fun i =>
         (.call f_tree_ask [(vB false)] .none [] ⟨(.panic (.iface y_tree_wrong (vI (i)))), .none, []⟩
          (.out (.need true
           (.ret ⟨(.panic (.iface y_tree_wrong (vI (i)))), .none, []⟩))))))))
     (.alt
      (.call f_tree_ask [(vB false)] .none [] ⟨(.ret (.tuple [])), .none, []⟩
       (.done ⟨tm2 82 [(1, (.ref [(vI (k)), (vS (n)), (.slice 1 (p) .no), (vI (m)), (.slice 5 (a) .no)]))], lm2 82 [], ⟨[], [], .none, 0⟩⟩))
      (.exI fun i =>
       (.call f_tree_ask [(vB false)] .none [] ⟨(.panic (.iface y_tree_wrong (vI (i)))), .none, []⟩
        (.out (.need true
         (.ret ⟨(.panic (.iface y_tree_wrong (vI (i)))), .none, []⟩))))))))
   (.alt
    (.call f_tree_ask [(vB false)] .none [] ⟨(.ret (.tuple [])), .none, []⟩
     (.done ⟨tm2 82 [(1, (.ref [(vI (k)), (vS (n)), (.slice 1 (p) .no), (vI (m)), (.slice 5 (a) .no)]))], lm2 82 [], ⟨[], [], .none, 0⟩⟩))
    (.exI fun i =>
     (.call f_tree_ask [(vB false)] .none [] ⟨(.panic (.iface y_tree_wrong (vI (i)))), .none, []⟩
      (.out (.need true
       (.ret ⟨(.panic (.iface y_tree_wrong (vI (i)))), .none, []⟩))))))))
 ((X_Pats1 k n p m a).K)) := by kernel_rfl

@[irreducible] noncomputable def X_Pats2 (k : Int) (n : ByteArray) (p : List (List AV)) (m : Int) (a : List (List AV)) : KT := (X_Pats1 k n p m a).K ⟨tm2 82 [(1, (.ref [(vI (k)), (vS (n)), (.slice 1 (p) .no), (vI (m)), (.slice 5 (a) .no)]))], lm2 82 [], ⟨[], [], .none, 0⟩⟩
theorem X_Pats2_eq (k : Int) (n : ByteArray) (p : List (List AV)) (m : Int) (a : List (List AV)) : (X_Pats1 k n p m a).K ⟨tm2 82 [(1, (.ref [(vI (k)), (vS (n)), (.slice 1 (p) .no), (vI (m)), (.slice 5 (a) .no)]))], lm2 82 [], ⟨[], [], .none, 0⟩⟩ =
  (.stage
 (.branch (k == 7)
  (.alt
   (.call f_tree_ask [(vB ((↑a.length : Int) == 2))] .none [] ⟨(.ret (.tuple [])), .none, []⟩
    (.done ⟨tm2 82 [(1, (.ref [(vI (k)), (vS (n)), (.slice 1 (p) .no), (vI (m)), (.slice 5 (a) .no)]))], lm2 82 [], ⟨[], [], .none, 0⟩⟩))
   (.exI fun i =>
    (.call f_tree_ask [(vB ((↑a.length : Int) == 2))] .none [] ⟨(.panic (.iface y_tree_wrong (vI (i)))), .none, []⟩
     (.out (.need true
      (.ret ⟨(.panic (.iface y_tree_wrong (vI (i)))), .none, []⟩))))))
  (.branch (k == 8)
   (.alt
    (.call f_tree_ask [(vB (decide ((↑a.length : Int) ≤ 1)))] .none [] ⟨(.ret (.tuple [])), .none, []⟩
     (.done ⟨tm2 82 [(1, (.ref [(vI (k)), (vS (n)), (.slice 1 (p) .no), (vI (m)), (.slice 5 (a) .no)]))], lm2 82 [], ⟨[], [], .none, 0⟩⟩))
    (.exI fun i =>
     (.call f_tree_ask [(vB (decide ((↑a.length : Int) ≤ 1)))] .none [] ⟨(.panic (.iface y_tree_wrong (vI (i)))), .none, []⟩
      (.out (.need true
       (.ret ⟨(.panic (.iface y_tree_wrong (vI (i)))), .none, []⟩))))))
   (.alt
    (.call f_tree_ask [(vB ((↑a.length : Int) == 0))] .none [] ⟨(.ret (.tuple [])), .none, []⟩
     (.done ⟨tm2 82 [(1, (.ref [(vI (k)), (vS (n)), (.slice 1 (p) .no), (vI (m)), (.slice 5 (a) .no)]))], lm2 82 [], ⟨[], [], .none, 0⟩⟩))
    (.exI fun i =>
     (.call f_tree_ask [(vB ((↑a.length : Int) == 0))] .none [] ⟨(.panic (.iface y_tree_wrong (vI (i)))), .none, []⟩
      (.out (.need true
       (.ret ⟨(.panic (.iface y_tree_wrong (vI (i)))), .none, []⟩))))))))
 ((X_Pats2 k n p m a).K)) := by kernel_rfl

@[irreducible] noncomputable def X_Pats3 (k : Int) (n : ByteArray) (p : List (List AV)) (m : Int) (a : List (List AV)) : KT := (X_Pats2 k n p m a).K ⟨tm2 82 [(1, (.ref [(vI (k)), (vS (n)), (.slice 1 (p) .no), (vI (m)), (.slice 5 (a) .no)]))], lm2 82 [], ⟨[], [], .none, 0⟩⟩
theorem X_Pats3_eq (k : Int) (n : ByteArray) (p : List (List AV)) (m : Int) (a : List (List AV)) : (X_Pats2 k n p m a).K ⟨tm2 82 [(1, (.ref [(vI (k)), (vS (n)), (.slice 1 (p) .no), (vI (m)), (.slice 5 (a) .no)]))], lm2 82 [], ⟨[], [], .none, 0⟩⟩ =
  (.stage
 (.branch (k == 2)
  (.alt
   (.call f_tree_lowName [(vS (n))] .none [] ⟨(.ret (.tuple [])), .none, []⟩
    (.done ⟨tm2 82 [(1, (.ref [(vI (k)), (vS (n)), (.slice 1 (p) .no), (vI (m)), (.slice 5 (a) .no)]))], lm2 82 [], ⟨[], [], .none, 0⟩⟩))
   (.exI fun i =>
    (.call f_tree_lowName [(vS (n))] .none [] ⟨(.panic (.iface y_tree_wrong (vI (i)))), .none, []⟩
     (.out (.need true
      (.ret ⟨(.panic (.iface y_tree_wrong (vI (i)))), .none, []⟩))))))
  (.done ⟨tm2 82 [(1, (.ref [(vI (k)), (vS (n)), (.slice 1 (p) .no), (vI (m)), (.slice 5 (a) .no)]))], lm2 82 [], ⟨[], [], .none, 0⟩⟩))
 ((X_Pats3 k n p m a).K)) := by kernel_rfl

@[irreducible] noncomputable def X_Pats4 (k : Int) (n : ByteArray) (p : List (List AV)) (m : Int) (a : List (List AV)) : KT := (X_Pats3 k n p m a).K ⟨tm2 82 [(1, (.ref [(vI (k)), (vS (n)), (.slice 1 (p) .no), (vI (m)), (.slice 5 (a) .no)]))], lm2 82 [], ⟨[], [], .none, 0⟩⟩
theorem X_Pats4_eq (k : Int) (n : ByteArray) (p : List (List AV)) (m : Int) (a : List (List AV)) : (X_Pats3 k n p m a).K ⟨tm2 82 [(1, (.ref [(vI (k)), (vS (n)), (.slice 1 (p) .no), (vI (m)), (.slice 5 (a) .no)]))], lm2 82 [], ⟨[], [], .none, 0⟩⟩ =
  (.branch (k == 8)
 (.alt
  (.call f_tree_highPath [(.slice 1 (p) .no)] .none [] ⟨(.ret (.tuple [])), .none, []⟩
   (.alt
    (.call f_tree_each_api_Pat [(.slice 5 (a) .no), (.func (.func f_tree_pat) [] [])] .none [] ⟨(.ret (.tuple [])), .none, []⟩
     (.need true
      (.ret ⟨(.ret (.tuple [])), .none, []⟩)))
    (.exI fun i =>
     (.call f_tree_each_api_Pat [(.slice 5 (a) .no), (.func (.func f_tree_pat) [] [])] .none [] ⟨(.panic (.iface y_tree_wrong (vI (i)))), .none, []⟩
      (.need true
       (.ret ⟨(.panic (.iface y_tree_wrong (vI (i)))), .none, []⟩))))))
  (.exI fun i =>
   (.call f_tree_highPath [(.slice 1 (p) .no)] .none [] ⟨(.panic (.iface y_tree_wrong (vI (i)))), .none, []⟩
    (.need true
     (.ret ⟨(.panic (.iface y_tree_wrong (vI (i)))), .none, []⟩)))))
 (.alt
  (.call f_tree_each_api_Pat [(.slice 5 (a) .no), (.func (.func f_tree_pat) [] [])] .none [] ⟨(.ret (.tuple [])), .none, []⟩
   (.need true
    (.ret ⟨(.ret (.tuple [])), .none, []⟩)))
  (.exI fun i =>
   (.call f_tree_each_api_Pat [(.slice 5 (a) .no), (.func (.func f_tree_pat) [] [])] .none [] ⟨(.panic (.iface y_tree_wrong (vI (i)))), .none, []⟩
    (.need true
     (.ret ⟨(.panic (.iface y_tree_wrong (vI (i)))), .none, []⟩)))))) := by kernel_rfl

@[irreducible] noncomputable def X_Exp (k : Int) (o : Int) (m : Int) (p : List (List AV)) (a : List (List AV)) (b : List (List AV)) (c : List (List AV)) (d : List (List AV)) : KT := kt2 f_tree_exp [AV.agg [vI k, vI o, vI m, AV.slice 1 p Own.no, AV.slice 5 a Own.no, AV.slice 8 b Own.no, AV.slice 9 c Own.no, AV.slice 4 d Own.no]] []
theorem X_Exp_eq (k : Int) (o : Int) (m : Int) (p : List (List AV)) (a : List (List AV)) (b : List (List AV)) (c : List (List AV)) (d : List (List AV)) : kt2 f_tree_exp [AV.agg [vI k, vI o, vI m, AV.slice 1 p Own.no, AV.slice 5 a Own.no, AV.slice 8 b Own.no, AV.slice 9 c Own.no, AV.slice 4 d Own.no]] [] =
  (.stage
 (.branch (decide (k ≥ 1))
  (.alt
   (.call f_tree_ask [(vB (decide (k ≤ 14)))] .none [] ⟨(.ret (.tuple [])), .none, []⟩
    (.done ⟨tm2 131 [(1, (.ref [(vI (k)), (vI (o)), (vI (m)), (.slice 1 (p) .no), (.slice 5 (a) .no), (.slice 8 (b) .no), (.slice 9 (c) .no), (.slice 4 (d) .no)]))], lm2 131 [], ⟨[], [], .none, 0⟩⟩))
   (.exI fun i =>
    (.call f_tree_ask [(vB (decide (k ≤ 14)))] .none [] ⟨(.panic (.iface y_tree_wrong (vI (i)))), .none, []⟩
     (.out (.need true
      (.ret ⟨(.panic (.iface y_tree_wrong (vI (i)))), .none, []⟩))))))
  (.alt
   (.call f_tree_ask [(vB false)] .none [] ⟨(.ret (.tuple [])), .none, []⟩
    (.done ⟨tm2 131 [(1, (.ref [(vI (k)), (vI (o)), (vI (m)), (.slice 1 (p) .no), (.slice 5 (a) .no), (.slice 8 (b) .no), (.slice 9 (c) .no), (.slice 4 (d) .no)]))], lm2 131 [], ⟨[], [], .none, 0⟩⟩))
   (.exI fun i =>
    (.call f_tree_ask [(vB false)] .none [] ⟨(.panic (.iface y_tree_wrong (vI (i)))), .none, []⟩
     (.out (.need true
      (.ret ⟨(.panic (.iface y_tree_wrong (vI (i)))), .none, []⟩)))))))
 ((X_Exp k o m p a b c d).K)) := by kernel_rfl

@[irreducible] noncomputable def X_Exps1 (k : Int) (o : Int) (m : Int) (p : List (List AV)) (a : List (List AV)) (b : List (List AV)) (c : List (List AV)) (d : List (List AV)) : KT := (X_Exp k o m p a b c d).K ⟨tm2 131 [(1, (.ref [(vI (k)), (vI (o)), (vI (m)), (.slice 1 (p) .no), (.slice 5 (a) .no), (.slice 8 (b) .no), (.slice 9 (c) .no), (.slice 4 (d) .no)]))], lm2 131 [], ⟨[], [], .none, 0⟩⟩
theorem X_Exps1_eq (k : Int) (o : Int) (m : Int) (p : List (List AV)) (a : List (List AV)) (b : List (List AV)) (c : List (List AV)) (d : List (List AV)) : (X_Exp k o m p a b c d).K ⟨tm2 131 [(1, (.ref [(vI (k)), (vI (o)), (vI (m)), (.slice 1 (p) .no), (.slice 5 (a) .no), (.slice 8 (b) .no), (.slice 9 (c) .no), (.slice 4 (d) .no)]))], lm2 131 [], ⟨[], [], .none, 0⟩⟩ =
  (.stage
 (.branch (k == 13)
  (.branch (decide (o ≥ 1))
   (.alt
    (.call f_tree_ask [(vB (decide (o ≤ 6)))] .none [] ⟨(.ret (.tuple [])), .none, []⟩
     (.done ⟨tm2 131 [(1, (.ref [(vI (k)), (vI (o)), (vI (m)), (.slice 1 (p) .no), (.slice 5 (a) .no), (.slice 8 (b) .no), (.slice 9 (c) .no), (.slice 4 (d) .no)]))], lm2 131 [], ⟨[], [], .none, 0⟩⟩))
    (.exI fun i =>
     (.call f_tree_ask [(vB (decide (o ≤ 6)))] .none [] ⟨(.panic (.iface y_tree_wrong (vI (i)))), .none, []⟩
      (.out (.need true
       (.ret ⟨(.panic (.iface y_tree_wrong (vI (i)))), .none, []⟩))))))
   (.alt
    (.call f_tree_ask [(vB false)] .none [] ⟨(.ret (.tuple [])), .none, []⟩
     (.done ⟨tm2 131 [(1, (.ref [(vI (k)), (vI (o)), (vI (m)), (.slice 1 (p) .no), (.slice 5 (a) .no), (.slice 8 (b) .no), (.slice 9 (c) .no), (.slice 4 (d) .no)]))], lm2 131 [], ⟨[], [], .none, 0⟩⟩))
    (.exI fun i =>
     (.call f_tree_ask [(vB false)] .none [] ⟨(.panic (.iface y_tree_wrong (vI (i)))), .none, []⟩
      (.out (.need true
       (.ret ⟨(.panic (.iface y_tree_wrong (vI (i)))), .none, []⟩)))))))
  (.alt
   (.call f_tree_ask [(vB (o == 0))] .none [] ⟨(.ret (.tuple [])), .none, []⟩
    (.done ⟨tm2 131 [(1, (.ref [(vI (k)), (vI (o)), (vI (m)), (.slice 1 (p) .no), (.slice 5 (a) .no), (.slice 8 (b) .no), (.slice 9 (c) .no), (.slice 4 (d) .no)]))], lm2 131 [], ⟨[], [], .none, 0⟩⟩))
   (.exI fun i =>
    (.call f_tree_ask [(vB (o == 0))] .none [] ⟨(.panic (.iface y_tree_wrong (vI (i)))), .none, []⟩
     (.out (.need true
      (.ret ⟨(.panic (.iface y_tree_wrong (vI (i)))), .none, []⟩)))))))
 ((X_Exps1 k o m p a b c d).K)) := by kernel_rfl

@[irreducible] noncomputable def X_Exps2 (k : Int) (o : Int) (m : Int) (p : List (List AV)) (a : List (List AV)) (b : List (List AV)) (c : List (List AV)) (d : List (List AV)) : KT := (X_Exps1 k o m p a b c d).K ⟨tm2 131 [(1, (.ref [(vI (k)), (vI (o)), (vI (m)), (.slice 1 (p) .no), (.slice 5 (a) .no), (.slice 8 (b) .no), (.slice 9 (c) .no), (.slice 4 (d) .no)]))], lm2 131 [], ⟨[], [], .none, 0⟩⟩
theorem X_Exps2_eq (k : Int) (o : Int) (m : Int) (p : List (List AV)) (a : List (List AV)) (b : List (List AV)) (c : List (List AV)) (d : List (List AV)) : (X_Exps1 k o m p a b c d).K ⟨tm2 131 [(1, (.ref [(vI (k)), (vI (o)), (vI (m)), (.slice 1 (p) .no), (.slice 5 (a) .no), (.slice 8 (b) .no), (.slice 9 (c) .no), (.slice 4 (d) .no)]))], lm2 131 [], ⟨[], [], .none, 0⟩⟩ =
  (.stage
 (.branch (k == 1)
  (.alt
   (.call f_tree_ask [(vB (decide (m ≥ 0)))] .none [] ⟨(.ret (.tuple [])), .none, []⟩
    (.done ⟨tm2 131 [(1, (.ref [(vI (k)), (vI (o)), (vI (m)), (.slice 1 (p) .no), (.slice 5 (a) .no), (.slice 8 (b) .no), (.slice 9 (c) .no), (.slice 4 (d) .no)]))], lm2 131 [], ⟨[], [], .none, 0⟩⟩))
   (.exI fun i =>
    (.call f_tree_ask [(vB (decide (m ≥ 0)))] .none [] ⟨(.panic (.iface y_tree_wrong (vI (i)))), .none, []⟩
     (.out (.need true
      (.ret ⟨(.panic (.iface y_tree_wrong (vI (i)))), .none, []⟩))))))
  (.branch (m == 0)
   (.alt
    (.call f_tree_ask [(vB (decide (m ≥ 0)))] .none [] ⟨(.ret (.tuple [])), .none, []⟩
     (.done ⟨tm2 131 [(1, (.ref [(vI (k)), (vI (o)), (vI (m)), (.slice 1 (p) .no), (.slice 5 (a) .no), (.slice 8 (b) .no), (.slice 9 (c) .no), (.slice 4 (d) .no)]))], lm2 131 [], ⟨[], [], .none, 0⟩⟩))
    (.exI fun i =>
     (.call f_tree_ask [(vB (decide (m ≥ 0)))] .none [] ⟨(.panic (.iface y_tree_wrong (vI (i)))), .none, []⟩
      (.out (.need true
       (.ret ⟨(.panic (.iface y_tree_wrong (vI (i)))), .none, []⟩))))))
   (.alt
    (.call f_tree_ask [(vB false)] .none [] ⟨(.ret (.tuple [])), .none, []⟩
     (.done ⟨tm2 131 [(1, (.ref [(vI (k)), (vI (o)), (vI (m)), (.slice 1 (p) .no), (.slice 5 (a) .no), (.slice 8 (b) .no), (.slice 9 (c) .no), (.slice 4 (d) .no)]))], lm2 131 [], ⟨[], [], .none, 0⟩⟩))
    (.exI fun i =>
     (.call f_tree_ask [(vB false)] .none [] ⟨(.panic (.iface y_tree_wrong (vI (i)))), .none, []⟩
      (.out (.need true
       (.ret ⟨(.panic (.iface y_tree_wrong (vI (i)))), .none, []⟩))))))))
 ((X_Exps2 k o m p a b c d).K)) := by kernel_rfl

@[irreducible] noncomputable def X_Exps3 (k : Int) (o : Int) (m : Int) (p : List (List AV)) (a : List (List AV)) (b : List (List AV)) (c : List (List AV)) (d : List (List AV)) : KT := (X_Exps2 k o m p a b c d).K ⟨tm2 131 [(1, (.ref [(vI (k)), (vI (o)), (vI (m)), (.slice 1 (p) .no), (.slice 5 (a) .no), (.slice 8 (b) .no), (.slice 9 (c) .no), (.slice 4 (d) .no)]))], lm2 131 [], ⟨[], [], .none, 0⟩⟩
theorem X_Exps3_eq (k : Int) (o : Int) (m : Int) (p : List (List AV)) (a : List (List AV)) (b : List (List AV)) (c : List (List AV)) (d : List (List AV)) : (X_Exps2 k o m p a b c d).K ⟨tm2 131 [(1, (.ref [(vI (k)), (vI (o)), (vI (m)), (.slice 1 (p) .no), (.slice 5 (a) .no), (.slice 8 (b) .no), (.slice 9 (c) .no), (.slice 4 (d) .no)]))], lm2 131 [], ⟨[], [], .none, 0⟩⟩ =
  (.stage
 (.branch (k == 5)
  (.alt
   (.call f_tree_ask [(vB true)] .none [] ⟨(.ret (.tuple [])), .none, []⟩
    (.done ⟨tm2 131 [(1, (.ref [(vI (k)), (vI (o)), (vI (m)), (.slice 1 (p) .no), (.slice 5 (a) .no), (.slice 8 (b) .no), (.slice 9 (c) .no), (.slice 4 (d) .no)]))], lm2 131 [], ⟨[], [], .none, 0⟩⟩))
   (.exI fun i =>
    (.call f_tree_ask [(vB true)] .none [] ⟨(.panic (.iface y_tree_wrong (vI (i)))), .none, []⟩
     (.out (.need true
      (.ret ⟨(.panic (.iface y_tree_wrong (vI (i)))), .none, []⟩))))))
  (.branch (k == 6)
   (.alt
    (.call f_tree_ask [(vB true)] .none [] ⟨(.ret (.tuple [])), .none, []⟩
     (.done ⟨tm2 131 [(1, (.ref [(vI (k)), (vI (o)), (vI (m)), (.slice 1 (p) .no), (.slice 5 (a) .no), (.slice 8 (b) .no), (.slice 9 (c) .no), (.slice 4 (d) .no)]))], lm2 131 [], ⟨[], [], .none, 0⟩⟩))
    (.exI fun i =>
     (.call f_tree_ask [(vB true)] .none [] ⟨(.panic (.iface y_tree_wrong (vI (i)))), .none, []⟩
      (.out (.need true
       (.ret ⟨(.panic (.iface y_tree_wrong (vI (i)))), .none, []⟩))))))
   (.alt
    (.call f_tree_ask [(vB ((↑p.length : Int) == 0))] .none [] ⟨(.ret (.tuple [])), .none, []⟩
     (.done ⟨tm2 131 [(1, (.ref [(vI (k)), (vI (o)), (vI (m)), (.slice 1 (p) .no), (.slice 5 (a) .no), (.slice 8 (b) .no), (.slice 9 (c) .no), (.slice 4 (d) .no)]))], lm2 131 [], ⟨[], [], .none, 0⟩⟩))
    (.exI fun i =>
     (.call f_tree_ask [(vB ((↑p.length : Int) == 0))] .none [] ⟨(.panic (.iface y_tree_wrong (vI (i)))), .none, []⟩
      (.out (.need true
       (.ret ⟨(.panic (.iface y_tree_wrong (vI (i)))), .none, []⟩))))))))
 ((X_Exps3 k o m p a b c d).K)) := by kernel_rfl

@[irreducible] noncomputable def X_Exps4 (k : Int) (o : Int) (m : Int) (p : List (List AV)) (a : List (List AV)) (b : List (List AV)) (c : List (List AV)) (d : List (List AV)) : KT := (X_Exps3 k o m p a b c d).K ⟨tm2 131 [(1, (.ref [(vI (k)), (vI (o)), (vI (m)), (.slice 1 (p) .no), (.slice 5 (a) .no), (.slice 8 (b) .no), (.slice 9 (c) .no), (.slice 4 (d) .no)]))], lm2 131 [], ⟨[], [], .none, 0⟩⟩
theorem X_Exps4_eq (k : Int) (o : Int) (m : Int) (p : List (List AV)) (a : List (List AV)) (b : List (List AV)) (c : List (List AV)) (d : List (List AV)) : (X_Exps3 k o m p a b c d).K ⟨tm2 131 [(1, (.ref [(vI (k)), (vI (o)), (vI (m)), (.slice 1 (p) .no), (.slice 5 (a) .no), (.slice 8 (b) .no), (.slice 9 (c) .no), (.slice 4 (d) .no)]))], lm2 131 [], ⟨[], [], .none, 0⟩⟩ =
  (.exI fun i =>
 (.exI fun i1 =>
  (.exI fun i2 =>
   (.call f_tree_parts [(vI (k))] .none [] ⟨(.ret (.tuple [(vI (i)), (vI (i1)), (vI (i2))])), .none, []⟩
    (.stage
     (.branch (decide (i < 0))
      (.done ⟨tm2 131 [(1, (.ref [(vI (k)), (vI (o)), (vI (m)), (.slice 1 (p) .no), (.slice 5 (a) .no), (.slice 8 (b) .no), (.slice 9 (c) .no), (.slice 4 (d) .no)])), (2, (vI (if 1 > (↑a.length : Int) then 1 else (↑a.length : Int)))), (3, (vI (IntKind.i64.wrap ((if 1 > (↑a.length : Int) then 1 else (↑a.length : Int)) + 1)))), (4, (vI (i2)))], lm2 131 [], ⟨[], [], .none, 0⟩⟩)
      (.done ⟨tm2 131 [(1, (.ref [(vI (k)), (vI (o)), (vI (m)), (.slice 1 (p) .no), (.slice 5 (a) .no), (.slice 8 (b) .no), (.slice 9 (c) .no), (.slice 4 (d) .no)])), (2, (vI (i))), (3, (vI (i1))), (4, (vI (i2)))], lm2 131 [], ⟨[], [], .none, 0⟩⟩))
     (((((X_Exps4 k o m p a b c d).I i).I i1).I i2).T.K)))))) := by kernel_rfl

@[irreducible] noncomputable def X_Exps5 (k : Int) (o : Int) (m : Int) (p : List (List AV)) (a : List (List AV)) (b : List (List AV)) (c : List (List AV)) (d : List (List AV)) (i : Int) (i1 : Int) (i2 : Int) (q5x0 : Int) (q5x1 : Int) : KT := ((((X_Exps4 k o m p a b c d).I i).I i1).I i2).T.K ⟨tm2 131 [(1, (.ref [(vI (k)), (vI (o)), (vI (m)), (.slice 1 (p) .no), (.slice 5 (a) .no), (.slice 8 (b) .no), (.slice 9 (c) .no), (.slice 4 (d) .no)])), (2, (vI (q5x0))), (3, (vI (q5x1))), (4, (vI (i2)))], lm2 131 [], ⟨[], [], .none, 0⟩⟩
theorem X_Exps5_eq (k : Int) (o : Int) (m : Int) (p : List (List AV)) (a : List (List AV)) (b : List (List AV)) (c : List (List AV)) (d : List (List AV)) (i : Int) (i1 : Int) (i2 : Int) (q5x0 : Int) (q5x1 : Int) : ((((X_Exps4 k o m p a b c d).I i).I i1).I i2).T.K ⟨tm2 131 [(1, (.ref [(vI (k)), (vI (o)), (vI (m)), (.slice 1 (p) .no), (.slice 5 (a) .no), (.slice 8 (b) .no), (.slice 9 (c) .no), (.slice 4 (d) .no)])), (2, (vI (q5x0))), (3, (vI (q5x1))), (4, (vI (i2)))], lm2 131 [], ⟨[], [], .none, 0⟩⟩ =
  (.stage
 (.branch ((↑a.length : Int) == q5x0)
  (.branch ((↑b.length : Int) == q5x1)
   (.alt
    (.call f_tree_ask [(vB ((↑d.length : Int) == i2))] .none [] ⟨(.ret (.tuple [])), .none, []⟩
     (.done ⟨tm2 131 [(1, (.ref [(vI (k)), (vI (o)), (vI (m)), (.slice 1 (p) .no), (.slice 5 (a) .no), (.slice 8 (b) .no), (.slice 9 (c) .no), (.slice 4 (d) .no)]))], lm2 131 [], ⟨[], [], .none, 0⟩⟩))
    (.exI fun i3 =>
     (.call f_tree_ask [(vB ((↑d.length : Int) == i2))] .none [] ⟨(.panic (.iface y_tree_wrong (vI (i3)))), .none, []⟩
      (.out (.need true
       (.ret ⟨(.panic (.iface y_tree_wrong (vI (i3)))), .none, []⟩))))))
   (.alt
    (.call f_tree_ask [(vB false)] .none [] ⟨(.ret (.tuple [])), .none, []⟩
     (.done ⟨tm2 131 [(1, (.ref [(vI (k)), (vI (o)), (vI (m)), (.slice 1 (p) .no), (.slice 5 (a) .no), (.slice 8 (b) .no), (.slice 9 (c) .no), (.slice 4 (d) .no)]))], lm2 131 [], ⟨[], [], .none, 0⟩⟩))
    (.exI fun i3 =>
     (.call f_tree_ask [(vB false)] .none [] ⟨(.panic (.iface y_tree_wrong (vI (i3)))), .none, []⟩
      (.out (.need true
       (.ret ⟨(.panic (.iface y_tree_wrong (vI (i3)))), .none, []⟩)))))))
  (.alt
   (.call f_tree_ask [(vB false)] .none [] ⟨(.ret (.tuple [])), .none, []⟩
    (.done ⟨tm2 131 [(1, (.ref [(vI (k)), (vI (o)), (vI (m)), (.slice 1 (p) .no), (.slice 5 (a) .no), (.slice 8 (b) .no), (.slice 9 (c) .no), (.slice 4 (d) .no)]))], lm2 131 [], ⟨[], [], .none, 0⟩⟩))
   (.exI fun i3 =>
    (.call f_tree_ask [(vB false)] .none [] ⟨(.panic (.iface y_tree_wrong (vI (i3)))), .none, []⟩
     (.out (.need true
      (.ret ⟨(.panic (.iface y_tree_wrong (vI (i3)))), .none, []⟩)))))))
 ((X_Exps5 k o m p a b c d i i1 i2 q5x0 q5x1).K)) := by kernel_rfl

@[irreducible] noncomputable def X_Exps6 (k : Int) (o : Int) (m : Int) (p : List (List AV)) (a : List (List AV)) (b : List (List AV)) (c : List (List AV)) (d : List (List AV)) (i : Int) (i1 : Int) (i2 : Int) (q5x0 : Int) (q5x1 : Int) : KT := (X_Exps5 k o m p a b c d i i1 i2 q5x0 q5x1).K ⟨tm2 131 [(1, (.ref [(vI (k)), (vI (o)), (vI (m)), (.slice 1 (p) .no), (.slice 5 (a) .no), (.slice 8 (b) .no), (.slice 9 (c) .no), (.slice 4 (d) .no)]))], lm2 131 [], ⟨[], [], .none, 0⟩⟩
theorem X_Exps6_eq (k : Int) (o : Int) (m : Int) (p : List (List AV)) (a : List (List AV)) (b : List (List AV)) (c : List (List AV)) (d : List (List AV)) (i : Int) (i1 : Int) (i2 : Int) (q5x0 : Int) (q5x1 : Int) : (X_Exps5 k o m p a b c d i i1 i2 q5x0 q5x1).K ⟨tm2 131 [(1, (.ref [(vI (k)), (vI (o)), (vI (m)), (.slice 1 (p) .no), (.slice 5 (a) .no), (.slice 8 (b) .no), (.slice 9 (c) .no), (.slice 4 (d) .no)]))], lm2 131 [], ⟨[], [], .none, 0⟩⟩ =
  (.stage
 (.branch (k == 10)
  (.alt
   (.call f_tree_ask [(vB true)] .none [] ⟨(.ret (.tuple [])), .none, []⟩
    (.done ⟨tm2 131 [(1, (.ref [(vI (k)), (vI (o)), (vI (m)), (.slice 1 (p) .no), (.slice 5 (a) .no), (.slice 8 (b) .no), (.slice 9 (c) .no), (.slice 4 (d) .no)]))], lm2 131 [], ⟨[], [], .none, 0⟩⟩))
   (.exI fun i3 =>
    (.call f_tree_ask [(vB true)] .none [] ⟨(.panic (.iface y_tree_wrong (vI (i3)))), .none, []⟩
     (.out (.need true
      (.ret ⟨(.panic (.iface y_tree_wrong (vI (i3)))), .none, []⟩))))))
  (.alt
   (.call f_tree_ask [(vB ((↑c.length : Int) == 0))] .none [] ⟨(.ret (.tuple [])), .none, []⟩
    (.done ⟨tm2 131 [(1, (.ref [(vI (k)), (vI (o)), (vI (m)), (.slice 1 (p) .no), (.slice 5 (a) .no), (.slice 8 (b) .no), (.slice 9 (c) .no), (.slice 4 (d) .no)]))], lm2 131 [], ⟨[], [], .none, 0⟩⟩))
   (.exI fun i3 =>
    (.call f_tree_ask [(vB ((↑c.length : Int) == 0))] .none [] ⟨(.panic (.iface y_tree_wrong (vI (i3)))), .none, []⟩
     (.out (.need true
      (.ret ⟨(.panic (.iface y_tree_wrong (vI (i3)))), .none, []⟩)))))))
 ((X_Exps6 k o m p a b c d i i1 i2 q5x0 q5x1).K)) := by kernel_rfl

@[irreducible] noncomputable def X_Exps7 (k : Int) (o : Int) (m : Int) (p : List (List AV)) (a : List (List AV)) (b : List (List AV)) (c : List (List AV)) (d : List (List AV)) (i : Int) (i1 : Int) (i2 : Int) (q5x0 : Int) (q5x1 : Int) : KT := (X_Exps6 k o m p a b c d i i1 i2 q5x0 q5x1).K ⟨tm2 131 [(1, (.ref [(vI (k)), (vI (o)), (vI (m)), (.slice 1 (p) .no), (.slice 5 (a) .no), (.slice 8 (b) .no), (.slice 9 (c) .no), (.slice 4 (d) .no)]))], lm2 131 [], ⟨[], [], .none, 0⟩⟩
theorem X_Exps7_eq (k : Int) (o : Int) (m : Int) (p : List (List AV)) (a : List (List AV)) (b : List (List AV)) (c : List (List AV)) (d : List (List AV)) (i : Int) (i1 : Int) (i2 : Int) (q5x0 : Int) (q5x1 : Int) : (X_Exps6 k o m p a b c d i i1 i2 q5x0 q5x1).K ⟨tm2 131 [(1, (.ref [(vI (k)), (vI (o)), (vI (m)), (.slice 1 (p) .no), (.slice 5 (a) .no), (.slice 8 (b) .no), (.slice 9 (c) .no), (.slice 4 (d) .no)]))], lm2 131 [], ⟨[], [], .none, 0⟩⟩ =
  (.alt
 (.call f_tree_each_api_Dec [(.slice 9 (c) .no), (.func (.func f_tree_exp_1) [] [])] .none [] ⟨(.ret (.tuple [])), .none, []⟩
  (.stage
   (.branch (k == 5)
    (.alt
     (.call f_tree_lowPath [(.slice 1 (p) .no)] .none [] ⟨(.ret (.tuple [])), .none, []⟩
      (.done ⟨tm2 131 [(1, (.ref [(vI (k)), (vI (o)), (vI (m)), (.slice 1 (p) .no), (.slice 5 (a) .no), (.slice 8 (b) .no), (.slice 9 (c) .no), (.slice 4 (d) .no)]))], lm2 131 [], ⟨[], [], .none, 0⟩⟩))
     (.exI fun i3 =>
      (.call f_tree_lowPath [(.slice 1 (p) .no)] .none [] ⟨(.panic (.iface y_tree_wrong (vI (i3)))), .none, []⟩
       (.out (.need true
        (.ret ⟨(.panic (.iface y_tree_wrong (vI (i3)))), .none, []⟩))))))
    (.done ⟨tm2 131 [(1, (.ref [(vI (k)), (vI (o)), (vI (m)), (.slice 1 (p) .no), (.slice 5 (a) .no), (.slice 8 (b) .no), (.slice 9 (c) .no), (.slice 4 (d) .no)]))], lm2 131 [], ⟨[], [], .none, 0⟩⟩))
   ((X_Exps7 k o m p a b c d i i1 i2 q5x0 q5x1).T.T.K)))
 (.exI fun i3 =>
  (.call f_tree_each_api_Dec [(.slice 9 (c) .no), (.func (.func f_tree_exp_1) [] [])] .none [] ⟨(.panic (.iface y_tree_wrong (vI (i3)))), .none, []⟩
   (.need true
    (.ret ⟨(.panic (.iface y_tree_wrong (vI (i3)))), .none, []⟩))))) := by kernel_rfl

@[irreducible] noncomputable def X_Exps8 (k : Int) (o : Int) (m : Int) (p : List (List AV)) (a : List (List AV)) (b : List (List AV)) (c : List (List AV)) (d : List (List AV)) (i : Int) (i1 : Int) (i2 : Int) (q5x0 : Int) (q5x1 : Int) : KT := (X_Exps7 k o m p a b c d i i1 i2 q5x0 q5x1).T.T.K ⟨tm2 131 [(1, (.ref [(vI (k)), (vI (o)), (vI (m)), (.slice 1 (p) .no), (.slice 5 (a) .no), (.slice 8 (b) .no), (.slice 9 (c) .no), (.slice 4 (d) .no)]))], lm2 131 [], ⟨[], [], .none, 0⟩⟩
theorem X_Exps8_eq (k : Int) (o : Int) (m : Int) (p : List (List AV)) (a : List (List AV)) (b : List (List AV)) (c : List (List AV)) (d : List (List AV)) (i : Int) (i1 : Int) (i2 : Int) (q5x0 : Int) (q5x1 : Int) : (X_Exps7 k o m p a b c d i i1 i2 q5x0 q5x1).T.T.K ⟨tm2 131 [(1, (.ref [(vI (k)), (vI (o)), (vI (m)), (.slice 1 (p) .no), (.slice 5 (a) .no), (.slice 8 (b) .no), (.slice 9 (c) .no), (.slice 4 (d) .no)]))], lm2 131 [], ⟨[], [], .none, 0⟩⟩ =
  (.stage
 (.branch (k == 6)
  (.alt
   (.call f_tree_highPath [(.slice 1 (p) .no)] .none [] ⟨(.ret (.tuple [])), .none, []⟩
    (.done ⟨tm2 131 [(1, (.ref [(vI (k)), (vI (o)), (vI (m)), (.slice 1 (p) .no), (.slice 5 (a) .no), (.slice 8 (b) .no), (.slice 9 (c) .no), (.slice 4 (d) .no)]))], lm2 131 [], ⟨[], [], .none, 0⟩⟩))
   (.exI fun i3 =>
    (.call f_tree_highPath [(.slice 1 (p) .no)] .none [] ⟨(.panic (.iface y_tree_wrong (vI (i3)))), .none, []⟩
     (.out (.need true
      (.ret ⟨(.panic (.iface y_tree_wrong (vI (i3)))), .none, []⟩))))))
  (.done ⟨tm2 131 [(1, (.ref [(vI (k)), (vI (o)), (vI (m)), (.slice 1 (p) .no), (.slice 5 (a) .no), (.slice 8 (b) .no), (.slice 9 (c) .no), (.slice 4 (d) .no)]))], lm2 131 [], ⟨[], [], .none, 0⟩⟩))
 ((X_Exps8 k o m p a b c d i i1 i2 q5x0 q5x1).K)) := by kernel_rfl

@[irreducible] noncomputable def X_Exps9 (k : Int) (o : Int) (m : Int) (p : List (List AV)) (a : List (List AV)) (b : List (List AV)) (c : List (List AV)) (d : List (List AV)) (i : Int) (i1 : Int) (i2 : Int) (q5x0 : Int) (q5x1 : Int) : KT := (X_Exps8 k o m p a b c d i i1 i2 q5x0 q5x1).K ⟨tm2 131 [(1, (.ref [(vI (k)), (vI (o)), (vI (m)), (.slice 1 (p) .no), (.slice 5 (a) .no), (.slice 8 (b) .no), (.slice 9 (c) .no), (.slice 4 (d) .no)]))], lm2 131 [], ⟨[], [], .none, 0⟩⟩
theorem X_Exps9_eq (k : Int) (o : Int) (m : Int) (p : List (List AV)) (a : List (List AV)) (b : List (List AV)) (c : List (List AV)) (d : List (List AV)) (i : Int) (i1 : Int) (i2 : Int) (q5x0 : Int) (q5x1 : Int) : (X_Exps8 k o m p a b c d i i1 i2 q5x0 q5x1).K ⟨tm2 131 [(1, (.ref [(vI (k)), (vI (o)), (vI (m)), (.slice 1 (p) .no), (.slice 5 (a) .no), (.slice 8 (b) .no), (.slice 9 (c) .no), (.slice 4 (d) .no)]))], lm2 131 [], ⟨[], [], .none, 0⟩⟩ =
  (.alt
 (.call f_tree_each_api_Pat [(.slice 5 (a) .no), (.func (.func f_tree_pat) [] [])] .none [] ⟨(.ret (.tuple [])), .none, []⟩
  (.alt
   (.call f_tree_each_api_Exp [(.slice 8 (b) .no), (.func (.func f_tree_exp) [] [])] .none [] ⟨(.ret (.tuple [])), .none, []⟩
    (.alt
     (.call f_tree_each_api_Dec [(.slice 9 (c) .no), (.func (.func f_tree_dec) [] [])] .none [] ⟨(.ret (.tuple [])), .none, []⟩
      (.alt
       (.call f_tree_each_api_Ty [(.slice 4 (d) .no), (.func (.func f_tree_ty) [] [])] .none [] ⟨(.ret (.tuple [])), .none, []⟩
        (.need true
         (.ret ⟨(.ret (.tuple [])), .none, []⟩)))
       (.exI fun i3 =>
        (.call f_tree_each_api_Ty [(.slice 4 (d) .no), (.func (.func f_tree_ty) [] [])] .none [] ⟨(.panic (.iface y_tree_wrong (vI (i3)))), .none, []⟩
         (.need true
          (.ret ⟨(.panic (.iface y_tree_wrong (vI (i3)))), .none, []⟩))))))
     (.exI fun i3 =>
      (.call f_tree_each_api_Dec [(.slice 9 (c) .no), (.func (.func f_tree_dec) [] [])] .none [] ⟨(.panic (.iface y_tree_wrong (vI (i3)))), .none, []⟩
       (.need true
        (.ret ⟨(.panic (.iface y_tree_wrong (vI (i3)))), .none, []⟩))))))
   (.exI fun i3 =>
    (.call f_tree_each_api_Exp [(.slice 8 (b) .no), (.func (.func f_tree_exp) [] [])] .none [] ⟨(.panic (.iface y_tree_wrong (vI (i3)))), .none, []⟩
     (.need true
      (.ret ⟨(.panic (.iface y_tree_wrong (vI (i3)))), .none, []⟩))))))
 (.exI fun i3 =>
  (.call f_tree_each_api_Pat [(.slice 5 (a) .no), (.func (.func f_tree_pat) [] [])] .none [] ⟨(.panic (.iface y_tree_wrong (vI (i3)))), .none, []⟩
   (.need true
    (.ret ⟨(.panic (.iface y_tree_wrong (vI (i3)))), .none, []⟩))))) := by kernel_rfl

@[irreducible] noncomputable def X_Con (n : ByteArray) (a : List (List AV)) : KT := kt2 f_tree_con [AV.agg [vS n, AV.slice 4 a Own.no]] []
theorem X_Con_eq (n : ByteArray) (a : List (List AV)) : kt2 f_tree_con [AV.agg [vS n, AV.slice 4 a Own.no]] [] =
  (.alt
 (.call f_tree_ask [(vB (decide ((↑a.length : Int) ≤ 1)))] .none [] ⟨(.ret (.tuple [])), .none, []⟩
  (.alt
   (.call f_tree_highName [(vS (n))] .none [] ⟨(.ret (.tuple [])), .none, []⟩
    (.alt
     (.call f_tree_each_api_Ty [(.slice 4 (a) .no), (.func (.func f_tree_ty) [] [])] .none [] ⟨(.ret (.tuple [])), .none, []⟩
      (.need true
       (.ret ⟨(.ret (.tuple [])), .none, []⟩)))
     (.exI fun i =>
      (.call f_tree_each_api_Ty [(.slice 4 (a) .no), (.func (.func f_tree_ty) [] [])] .none [] ⟨(.panic (.iface y_tree_wrong (vI (i)))), .none, []⟩
       (.need true
        (.ret ⟨(.panic (.iface y_tree_wrong (vI (i)))), .none, []⟩))))))
   (.exI fun i =>
    (.call f_tree_highName [(vS (n))] .none [] ⟨(.panic (.iface y_tree_wrong (vI (i)))), .none, []⟩
     (.need true
      (.ret ⟨(.panic (.iface y_tree_wrong (vI (i)))), .none, []⟩))))))
 (.exI fun i =>
  (.call f_tree_ask [(vB (decide ((↑a.length : Int) ≤ 1)))] .none [] ⟨(.panic (.iface y_tree_wrong (vI (i)))), .none, []⟩
   (.need true
    (.ret ⟨(.panic (.iface y_tree_wrong (vI (i)))), .none, []⟩))))) := by kernel_rfl

@[irreducible] noncomputable def X_Dec (k : Int) (o : Int) (n : ByteArray) (p : List (List AV)) (a : List (List AV)) (b : List (List AV)) (c : List (List AV)) (d : List (List AV)) (e : List (List AV)) : KT := kt2 f_tree_dec [AV.agg [vI k, vI o, vS n, AV.slice 1 p Own.no, AV.slice 4 a Own.no, AV.slice 8 b Own.no, AV.slice 2 c Own.no, AV.slice 5 d Own.no, AV.slice 5 e Own.no]] []
theorem X_Dec_eq (k : Int) (o : Int) (n : ByteArray) (p : List (List AV)) (a : List (List AV)) (b : List (List AV)) (c : List (List AV)) (d : List (List AV)) (e : List (List AV)) : kt2 f_tree_dec [AV.agg [vI k, vI o, vS n, AV.slice 1 p Own.no, AV.slice 4 a Own.no, AV.slice 8 b Own.no, AV.slice 2 c Own.no, AV.slice 5 d Own.no, AV.slice 5 e Own.no]] [] =
  (.stage
 (.branch (decide (k ≥ 1))
  (.alt
   (.call f_tree_ask [(vB (decide (k ≤ 7)))] .none [] ⟨(.ret (.tuple [])), .none, []⟩
    (.done ⟨tm2 119 [(1, (.ref [(vI (k)), (vI (o)), (vS (n)), (.slice 1 (p) .no), (.slice 4 (a) .no), (.slice 8 (b) .no), (.slice 2 (c) .no), (.slice 5 (d) .no), (.slice 5 (e) .no)]))], lm2 119 [], ⟨[], [], .none, 0⟩⟩))
   (.exI fun i =>
    (.call f_tree_ask [(vB (decide (k ≤ 7)))] .none [] ⟨(.panic (.iface y_tree_wrong (vI (i)))), .none, []⟩
     (.out (.need true
      (.ret ⟨(.panic (.iface y_tree_wrong (vI (i)))), .none, []⟩))))))
  (.alt
   (.call f_tree_ask [(vB false)] .none [] ⟨(.ret (.tuple [])), .none, []⟩
    (.done ⟨tm2 119 [(1, (.ref [(vI (k)), (vI (o)), (vS (n)), (.slice 1 (p) .no), (.slice 4 (a) .no), (.slice 8 (b) .no), (.slice 2 (c) .no), (.slice 5 (d) .no), (.slice 5 (e) .no)]))], lm2 119 [], ⟨[], [], .none, 0⟩⟩))
   (.exI fun i =>
    (.call f_tree_ask [(vB false)] .none [] ⟨(.panic (.iface y_tree_wrong (vI (i)))), .none, []⟩
     (.out (.need true
      (.ret ⟨(.panic (.iface y_tree_wrong (vI (i)))), .none, []⟩)))))))
 ((X_Dec k o n p a b c d e).K)) := by kernel_rfl

@[irreducible] noncomputable def X_Decs1 (k : Int) (o : Int) (n : ByteArray) (p : List (List AV)) (a : List (List AV)) (b : List (List AV)) (c : List (List AV)) (d : List (List AV)) (e : List (List AV)) : KT := (X_Dec k o n p a b c d e).K ⟨tm2 119 [(1, (.ref [(vI (k)), (vI (o)), (vS (n)), (.slice 1 (p) .no), (.slice 4 (a) .no), (.slice 8 (b) .no), (.slice 2 (c) .no), (.slice 5 (d) .no), (.slice 5 (e) .no)]))], lm2 119 [], ⟨[], [], .none, 0⟩⟩
theorem X_Decs1_eq (k : Int) (o : Int) (n : ByteArray) (p : List (List AV)) (a : List (List AV)) (b : List (List AV)) (c : List (List AV)) (d : List (List AV)) (e : List (List AV)) : (X_Dec k o n p a b c d e).K ⟨tm2 119 [(1, (.ref [(vI (k)), (vI (o)), (vS (n)), (.slice 1 (p) .no), (.slice 4 (a) .no), (.slice 8 (b) .no), (.slice 2 (c) .no), (.slice 5 (d) .no), (.slice 5 (e) .no)]))], lm2 119 [], ⟨[], [], .none, 0⟩⟩ =
  (.stage
 (.branch (k == 1)
  (.done ⟨tm2 119 [(1, (.ref [(vI (k)), (vI (o)), (vS (n)), (.slice 1 (p) .no), (.slice 4 (a) .no), (.slice 8 (b) .no), (.slice 2 (c) .no), (.slice 5 (d) .no), (.slice 5 (e) .no)])), (2, (.lp 2 0 0)), (3, (.lp 3 0 0)), (4, (.lp 4 0 0)), (5, (.lp 5 0 0)), (6, (.lp 6 0 0)), (7, (.lp 7 0 0)), (8, (vB true))], lm2 119 [(2, (0, [(vI (0)), (vI (0))])), (3, (0, [(vI (0)), (vI (1))])), (4, (0, [(vI (1)), (vI (1))])), (5, (0, [(vI (0)), (vI (0))])), (6, (0, [(vI (0)), (vI (0))])), (7, (0, [(vI (0)), (vI (0))]))], ⟨[], [], .none, 0⟩⟩)
  (.branch (k == 2)
   (.done ⟨tm2 119 [(1, (.ref [(vI (k)), (vI (o)), (vS (n)), (.slice 1 (p) .no), (.slice 4 (a) .no), (.slice 8 (b) .no), (.slice 2 (c) .no), (.slice 5 (d) .no), (.slice 5 (e) .no)])), (2, (.lp 2 0 0)), (3, (.lp 3 0 0)), (4, (.lp 4 0 0)), (5, (.lp 5 0 0)), (6, (.lp 6 0 0)), (7, (.lp 7 0 0)), (8, (vB true))], lm2 119 [(2, (0, [(vI (1)), (vI (-1))])), (3, (0, [(vI (0)), (vI (1))])), (4, (0, [(vI (1)), (vI (1))])), (5, (0, [(vI (0)), (vI (0))])), (6, (0, [(vI (0)), (vI (0))])), (7, (0, [(vI (0)), (vI (0))]))], ⟨[], [], .none, 0⟩⟩)
   (.branch (k == 3)
    (.done ⟨tm2 119 [(1, (.ref [(vI (k)), (vI (o)), (vS (n)), (.slice 1 (p) .no), (.slice 4 (a) .no), (.slice 8 (b) .no), (.slice 2 (c) .no), (.slice 5 (d) .no), (.slice 5 (e) .no)])), (2, (.lp 2 0 0)), (3, (.lp 3 0 0)), (4, (.lp 4 0 0)), (5, (.lp 5 0 0)), (6, (.lp 6 0 0)), (7, (.lp 7 0 0)), (8, (vB true))], lm2 119 [(2, (0, [(vI (0)), (vI (0))])), (3, (0, [(vI (1)), (vI (1))])), (4, (0, [(vI (0)), (vI (0))])), (5, (0, [(vI (0)), (vI (0))])), (6, (0, [(vI (0)), (vI (0))])), (7, (0, [(vI (0)), (vI (0))]))], ⟨[], [], .none, 0⟩⟩)
    (.branch (k == 4)
     (.done ⟨tm2 119 [(1, (.ref [(vI (k)), (vI (o)), (vS (n)), (.slice 1 (p) .no), (.slice 4 (a) .no), (.slice 8 (b) .no), (.slice 2 (c) .no), (.slice 5 (d) .no), (.slice 5 (e) .no)])), (2, (.lp 2 0 0)), (3, (.lp 3 0 0)), (4, (.lp 4 0 0)), (5, (.lp 5 0 0)), (6, (.lp 6 0 0)), (7, (.lp 7 0 0)), (8, (vB true))], lm2 119 [(2, (0, [(vI (0)), (vI (0))])), (3, (0, [(vI (0)), (vI (0))])), (4, (0, [(vI (0)), (vI (0))])), (5, (0, [(vI (1)), (vI (-1))])), (6, (0, [(vI (0)), (vI (0))])), (7, (0, [(vI (0)), (vI (0))]))], ⟨[], [], .none, 0⟩⟩)
     (.branch (k == 5)
      (.done ⟨tm2 119 [(1, (.ref [(vI (k)), (vI (o)), (vS (n)), (.slice 1 (p) .no), (.slice 4 (a) .no), (.slice 8 (b) .no), (.slice 2 (c) .no), (.slice 5 (d) .no), (.slice 5 (e) .no)])), (2, (.lp 2 0 0)), (3, (.lp 3 0 0)), (4, (.lp 4 0 0)), (5, (.lp 5 0 0)), (6, (.lp 6 0 0)), (7, (.lp 7 0 0)), (8, (vB false))], lm2 119 [(2, (0, [(vI (0)), (vI (0))])), (3, (0, [(vI (0)), (vI (0))])), (4, (0, [(vI (0)), (vI (0))])), (5, (0, [(vI (0)), (vI (0))])), (6, (0, [(vI (1)), (vI (1))])), (7, (0, [(vI (0)), (vI (0))]))], ⟨[], [], .none, 0⟩⟩)
      (.branch (k == 6)
       (.done ⟨tm2 119 [(1, (.ref [(vI (k)), (vI (o)), (vS (n)), (.slice 1 (p) .no), (.slice 4 (a) .no), (.slice 8 (b) .no), (.slice 2 (c) .no), (.slice 5 (d) .no), (.slice 5 (e) .no)])), (2, (.lp 2 0 0)), (3, (.lp 3 0 0)), (4, (.lp 4 0 0)), (5, (.lp 5 0 0)), (6, (.lp 6 0 0)), (7, (.lp 7 0 0)), (8, (vB false))], lm2 119 [(2, (0, [(vI (0)), (vI (0))])), (3, (0, [(vI (0)), (vI (0))])), (4, (0, [(vI (0)), (vI (0))])), (5, (0, [(vI (0)), (vI (0))])), (6, (0, [(vI (0)), (vI (0))])), (7, (0, [(vI (1)), (vI (1))]))], ⟨[], [], .none, 0⟩⟩)
       (.branch (k == 7)
        (.done ⟨tm2 119 [(1, (.ref [(vI (k)), (vI (o)), (vS (n)), (.slice 1 (p) .no), (.slice 4 (a) .no), (.slice 8 (b) .no), (.slice 2 (c) .no), (.slice 5 (d) .no), (.slice 5 (e) .no)])), (2, (.lp 2 0 0)), (3, (.lp 3 0 0)), (4, (.lp 4 0 0)), (5, (.lp 5 0 0)), (6, (.lp 6 0 0)), (7, (.lp 7 0 0)), (8, (vB false))], lm2 119 [(2, (0, [(vI (1)), (vI (1))])), (3, (0, [(vI (0)), (vI (0))])), (4, (0, [(vI (0)), (vI (0))])), (5, (0, [(vI (0)), (vI (0))])), (6, (0, [(vI (1)), (vI (1))])), (7, (0, [(vI (1)), (vI (1))]))], ⟨[], [], .none, 0⟩⟩)
        (.done ⟨tm2 119 [(1, (.ref [(vI (k)), (vI (o)), (vS (n)), (.slice 1 (p) .no), (.slice 4 (a) .no), (.slice 8 (b) .no), (.slice 2 (c) .no), (.slice 5 (d) .no), (.slice 5 (e) .no)])), (2, (.lp 2 0 0)), (3, (.lp 3 0 0)), (4, (.lp 4 0 0)), (5, (.lp 5 0 0)), (6, (.lp 6 0 0)), (7, (.lp 7 0 0)), (8, (vB true))], lm2 119 [(2, (0, [(vI (0)), (vI (0))])), (3, (0, [(vI (0)), (vI (0))])), (4, (0, [(vI (0)), (vI (0))])), (5, (0, [(vI (0)), (vI (0))])), (6, (0, [(vI (0)), (vI (0))])), (7, (0, [(vI (0)), (vI (0))]))], ⟨[], [], .none, 0⟩⟩))))))))
 ((X_Decs1 k o n p a b c d e).K)) := by kernel_rfl

@[irreducible] noncomputable def X_Decs2 (k : Int) (o : Int) (n : ByteArray) (p : List (List AV)) (a : List (List AV)) (b : List (List AV)) (c : List (List AV)) (d : List (List AV)) (e : List (List AV)) (q2x0 : Bool) (q2x1 : Int) (q2x2 : Int) (q2x3 : Int) (q2x4 : Int) (q2x5 : Int) (q2x6 : Int) (q2x7 : Int) (q2x8 : Int) (q2x9 : Int) (q2x10 : Int) (q2x11 : Int) (q2x12 : Int) : KT := (X_Decs1 k o n p a b c d e).K ⟨tm2 119 [(1, (.ref [(vI (k)), (vI (o)), (vS (n)), (.slice 1 (p) .no), (.slice 4 (a) .no), (.slice 8 (b) .no), (.slice 2 (c) .no), (.slice 5 (d) .no), (.slice 5 (e) .no)])), (2, (.lp 2 0 0)), (3, (.lp 3 0 0)), (4, (.lp 4 0 0)), (5, (.lp 5 0 0)), (6, (.lp 6 0 0)), (7, (.lp 7 0 0)), (8, (vB (q2x0)))], lm2 119 [(2, (0, [(vI (q2x1)), (vI (q2x2))])), (3, (0, [(vI (q2x3)), (vI (q2x4))])), (4, (0, [(vI (q2x5)), (vI (q2x6))])), (5, (0, [(vI (q2x7)), (vI (q2x8))])), (6, (0, [(vI (q2x9)), (vI (q2x10))])), (7, (0, [(vI (q2x11)), (vI (q2x12))]))], ⟨[], [], .none, 0⟩⟩
theorem X_Decs2_eq (k : Int) (o : Int) (n : ByteArray) (p : List (List AV)) (a : List (List AV)) (b : List (List AV)) (c : List (List AV)) (d : List (List AV)) (e : List (List AV)) (q2x0 : Bool) (q2x1 : Int) (q2x2 : Int) (q2x3 : Int) (q2x4 : Int) (q2x5 : Int) (q2x6 : Int) (q2x7 : Int) (q2x8 : Int) (q2x9 : Int) (q2x10 : Int) (q2x11 : Int) (q2x12 : Int) : (X_Decs1 k o n p a b c d e).K ⟨tm2 119 [(1, (.ref [(vI (k)), (vI (o)), (vS (n)), (.slice 1 (p) .no), (.slice 4 (a) .no), (.slice 8 (b) .no), (.slice 2 (c) .no), (.slice 5 (d) .no), (.slice 5 (e) .no)])), (2, (.lp 2 0 0)), (3, (.lp 3 0 0)), (4, (.lp 4 0 0)), (5, (.lp 5 0 0)), (6, (.lp 6 0 0)), (7, (.lp 7 0 0)), (8, (vB (q2x0)))], lm2 119 [(2, (0, [(vI (q2x1)), (vI (q2x2))])), (3, (0, [(vI (q2x3)), (vI (q2x4))])), (4, (0, [(vI (q2x5)), (vI (q2x6))])), (5, (0, [(vI (q2x7)), (vI (q2x8))])), (6, (0, [(vI (q2x9)), (vI (q2x10))])), (7, (0, [(vI (q2x11)), (vI (q2x12))]))], ⟨[], [], .none, 0⟩⟩ =
  (.alt
 (.call f_tree_count [(vI ((↑p.length : Int))), (vI (q2x1)), (vI (q2x2))] .none [] ⟨(.ret (.tuple [])), .none, []⟩
  (.alt
   (.call f_tree_count [(vI ((↑a.length : Int))), (vI (q2x3)), (vI (q2x4))] .none [] ⟨(.ret (.tuple [])), .none, []⟩
    (.alt
     (.call f_tree_count [(vI ((↑b.length : Int))), (vI (q2x5)), (vI (q2x6))] .none [] ⟨(.ret (.tuple [])), .none, []⟩
      (.alt
       (.call f_tree_count [(vI ((↑c.length : Int))), (vI (q2x7)), (vI (q2x8))] .none [] ⟨(.ret (.tuple [])), .none, []⟩
        (.alt
         (.call f_tree_count [(vI ((↑d.length : Int))), (vI (q2x9)), (vI (q2x10))] .none [] ⟨(.ret (.tuple [])), .none, []⟩
          (.alt
           (.call f_tree_count [(vI ((↑e.length : Int))), (vI (q2x11)), (vI (q2x12))] .none [] ⟨(.ret (.tuple [])), .none, []⟩
            (.branch (q2x0)
             (.stage
              (.alt
               (.call f_tree_lowName [(vS (n))] .none [] ⟨(.ret (.tuple [])), .none, []⟩
                (.done ⟨tm2 119 [(1, (.ref [(vI (k)), (vI (o)), (vS (n)), (.slice 1 (p) .no), (.slice 4 (a) .no), (.slice 8 (b) .no), (.slice 2 (c) .no), (.slice 5 (d) .no), (.slice 5 (e) .no)])), (9, (.func (.func f_tree_lowName) [] []))], lm2 119 [], ⟨[], [], .none, 0⟩⟩))
               (.exI fun i =>
                (.call f_tree_lowName [(vS (n))] .none [] ⟨(.panic (.iface y_tree_wrong (vI (i)))), .none, []⟩
                 (.out (.need true
                  (.ret ⟨(.panic (.iface y_tree_wrong (vI (i)))), .none, []⟩))))))
              ((X_Decs2 k o n p a b c d e q2x0 q2x1 q2x2 q2x3 q2x4 q2x5 q2x6 q2x7 q2x8 q2x9 q2x10 q2x11 q2x12).T.T.T.T.T.T.T.T.T.T.T.T.T.K))
             (.stage
              (.alt
               (.call f_tree_highName [(vS (n))] .none [] ⟨(.ret (.tuple [])), .none, []⟩
                (.done ⟨tm2 119 [(1, (.ref [(vI (k)), (vI (o)), (vS (n)), (.slice 1 (p) .no), (.slice 4 (a) .no), (.slice 8 (b) .no), (.slice 2 (c) .no), (.slice 5 (d) .no), (.slice 5 (e) .no)])), (9, (.func (.func f_tree_highName) [] []))], lm2 119 [], ⟨[], [], .none, 0⟩⟩))
               (.exI fun i =>
                (.call f_tree_highName [(vS (n))] .none [] ⟨(.panic (.iface y_tree_wrong (vI (i)))), .none, []⟩
                 (.out (.need true
                  (.ret ⟨(.panic (.iface y_tree_wrong (vI (i)))), .none, []⟩))))))
              ((X_Decs2 k o n p a b c d e q2x0 q2x1 q2x2 q2x3 q2x4 q2x5 q2x6 q2x7 q2x8 q2x9 q2x10 q2x11 q2x12).T.T.T.T.T.T.T.T.T.T.T.T.F.K))))
           (.exI fun i =>
            (.call f_tree_count [(vI ((↑e.length : Int))), (vI (q2x11)), (vI (q2x12))] .none [] ⟨(.panic (.iface y_tree_wrong (vI (i)))), .none, []⟩
             (.need true
              (.ret ⟨(.panic (.iface y_tree_wrong (vI (i)))), .none, []⟩))))))
         (.exI fun i =>
          (.call f_tree_count [(vI ((↑d.length : Int))), (vI (q2x9)), (vI (q2x10))] .none [] ⟨(.panic (.iface y_tree_wrong (vI (i)))), .none, []⟩
           (.need true
            (.ret ⟨(.panic (.iface y_tree_wrong (vI (i)))), .none, []⟩))))))
       (.exI fun i =>
        (.call f_tree_count [(vI ((↑c.length : Int))), (vI (q2x7)), (vI (q2x8))] .none [] ⟨(.panic (.iface y_tree_wrong (vI (i)))), .none, []⟩
         (.need true
          (.ret ⟨(.panic (.iface y_tree_wrong (vI (i)))), .none, []⟩))))))
     (.exI fun i =>
      (.call f_tree_count [(vI ((↑b.length : Int))), (vI (q2x5)), (vI (q2x6))] .none [] ⟨(.panic (.iface y_tree_wrong (vI (i)))), .none, []⟩
       (.need true
        (.ret ⟨(.panic (.iface y_tree_wrong (vI (i)))), .none, []⟩))))))
   (.exI fun i =>
    (.call f_tree_count [(vI ((↑a.length : Int))), (vI (q2x3)), (vI (q2x4))] .none [] ⟨(.panic (.iface y_tree_wrong (vI (i)))), .none, []⟩
     (.need true
      (.ret ⟨(.panic (.iface y_tree_wrong (vI (i)))), .none, []⟩))))))
 (.exI fun i =>
  (.call f_tree_count [(vI ((↑p.length : Int))), (vI (q2x1)), (vI (q2x2))] .none [] ⟨(.panic (.iface y_tree_wrong (vI (i)))), .none, []⟩
   (.need true
    (.ret ⟨(.panic (.iface y_tree_wrong (vI (i)))), .none, []⟩))))) := by kernel_rfl

@[irreducible] noncomputable def X_Decs4 (k : Int) (o : Int) (n : ByteArray) (p : List (List AV)) (a : List (List AV)) (b : List (List AV)) (c : List (List AV)) (d : List (List AV)) (e : List (List AV)) (q2x0 : Bool) (q2x1 : Int) (q2x2 : Int) (q2x3 : Int) (q2x4 : Int) (q2x5 : Int) (q2x6 : Int) (q2x7 : Int) (q2x8 : Int) (q2x9 : Int) (q2x10 : Int) (q2x11 : Int) (q2x12 : Int) : KT := (X_Decs2 k o n p a b c d e q2x0 q2x1 q2x2 q2x3 q2x4 q2x5 q2x6 q2x7 q2x8 q2x9 q2x10 q2x11 q2x12).T.T.T.T.T.T.T.T.T.T.T.T.F.K ⟨tm2 119 [(1, (.ref [(vI (k)), (vI (o)), (vS (n)), (.slice 1 (p) .no), (.slice 4 (a) .no), (.slice 8 (b) .no), (.slice 2 (c) .no), (.slice 5 (d) .no), (.slice 5 (e) .no)])), (9, (.func (.func f_tree_highName) [] []))], lm2 119 [], ⟨[], [], .none, 0⟩⟩
theorem X_Decs4_eq (k : Int) (o : Int) (n : ByteArray) (p : List (List AV)) (a : List (List AV)) (b : List (List AV)) (c : List (List AV)) (d : List (List AV)) (e : List (List AV)) (q2x0 : Bool) (q2x1 : Int) (q2x2 : Int) (q2x3 : Int) (q2x4 : Int) (q2x5 : Int) (q2x6 : Int) (q2x7 : Int) (q2x8 : Int) (q2x9 : Int) (q2x10 : Int) (q2x11 : Int) (q2x12 : Int) : (X_Decs2 k o n p a b c d e q2x0 q2x1 q2x2 q2x3 q2x4 q2x5 q2x6 q2x7 q2x8 q2x9 q2x10 q2x11 q2x12).T.T.T.T.T.T.T.T.T.T.T.T.F.K ⟨tm2 119 [(1, (.ref [(vI (k)), (vI (o)), (vS (n)), (.slice 1 (p) .no), (.slice 4 (a) .no), (.slice 8 (b) .no), (.slice 2 (c) .no), (.slice 5 (d) .no), (.slice 5 (e) .no)])), (9, (.func (.func f_tree_highName) [] []))], lm2 119 [], ⟨[], [], .none, 0⟩⟩ =
  (.alt
 (.call f_tree_each_string [(.slice 1 (p) .no), (.func (.func f_tree_highName) [] [])] .none [] ⟨(.ret (.tuple [])), .none, []⟩
  (.alt
   (.call f_tree_each_api_Ty [(.slice 4 (a) .no), (.func (.func f_tree_ty) [] [])] .none [] ⟨(.ret (.tuple [])), .none, []⟩
    (.alt
     (.call f_tree_each_api_Exp [(.slice 8 (b) .no), (.func (.func f_tree_exp) [] [])] .none [] ⟨(.ret (.tuple [])), .none, []⟩
      (.alt
       (.call f_tree_each_api_Con [(.slice 2 (c) .no), (.func (.func f_tree_con) [] [])] .none [] ⟨(.ret (.tuple [])), .none, []⟩
        (.alt
         (.call f_tree_each_api_Mod [(.slice 5 (d) .no), (.func (.func f_tree_mod) [] [])] .none [] ⟨(.ret (.tuple [])), .none, []⟩
          (.alt
           (.call f_tree_each_api_Sig [(.slice 5 (e) .no), (.func (.func f_tree_sig) [] [])] .none [] ⟨(.ret (.tuple [])), .none, []⟩
            (.need true
             (.ret ⟨(.ret (.tuple [])), .none, []⟩)))
           (.exI fun i =>
            (.call f_tree_each_api_Sig [(.slice 5 (e) .no), (.func (.func f_tree_sig) [] [])] .none [] ⟨(.panic (.iface y_tree_wrong (vI (i)))), .none, []⟩
             (.need true
              (.ret ⟨(.panic (.iface y_tree_wrong (vI (i)))), .none, []⟩))))))
         (.exI fun i =>
          (.call f_tree_each_api_Mod [(.slice 5 (d) .no), (.func (.func f_tree_mod) [] [])] .none [] ⟨(.panic (.iface y_tree_wrong (vI (i)))), .none, []⟩
           (.need true
            (.ret ⟨(.panic (.iface y_tree_wrong (vI (i)))), .none, []⟩))))))
       (.exI fun i =>
        (.call f_tree_each_api_Con [(.slice 2 (c) .no), (.func (.func f_tree_con) [] [])] .none [] ⟨(.panic (.iface y_tree_wrong (vI (i)))), .none, []⟩
         (.need true
          (.ret ⟨(.panic (.iface y_tree_wrong (vI (i)))), .none, []⟩))))))
     (.exI fun i =>
      (.call f_tree_each_api_Exp [(.slice 8 (b) .no), (.func (.func f_tree_exp) [] [])] .none [] ⟨(.panic (.iface y_tree_wrong (vI (i)))), .none, []⟩
       (.need true
        (.ret ⟨(.panic (.iface y_tree_wrong (vI (i)))), .none, []⟩))))))
   (.exI fun i =>
    (.call f_tree_each_api_Ty [(.slice 4 (a) .no), (.func (.func f_tree_ty) [] [])] .none [] ⟨(.panic (.iface y_tree_wrong (vI (i)))), .none, []⟩
     (.need true
      (.ret ⟨(.panic (.iface y_tree_wrong (vI (i)))), .none, []⟩))))))
 (.exI fun i =>
  (.call f_tree_each_string [(.slice 1 (p) .no), (.func (.func f_tree_highName) [] [])] .none [] ⟨(.panic (.iface y_tree_wrong (vI (i)))), .none, []⟩
   (.need true
    (.ret ⟨(.panic (.iface y_tree_wrong (vI (i)))), .none, []⟩))))) := by kernel_rfl

@[irreducible] noncomputable def X_Decs3 (k : Int) (o : Int) (n : ByteArray) (p : List (List AV)) (a : List (List AV)) (b : List (List AV)) (c : List (List AV)) (d : List (List AV)) (e : List (List AV)) (q2x0 : Bool) (q2x1 : Int) (q2x2 : Int) (q2x3 : Int) (q2x4 : Int) (q2x5 : Int) (q2x6 : Int) (q2x7 : Int) (q2x8 : Int) (q2x9 : Int) (q2x10 : Int) (q2x11 : Int) (q2x12 : Int) : KT := (X_Decs2 k o n p a b c d e q2x0 q2x1 q2x2 q2x3 q2x4 q2x5 q2x6 q2x7 q2x8 q2x9 q2x10 q2x11 q2x12).T.T.T.T.T.T.T.T.T.T.T.T.T.K ⟨tm2 119 [(1, (.ref [(vI (k)), (vI (o)), (vS (n)), (.slice 1 (p) .no), (.slice 4 (a) .no), (.slice 8 (b) .no), (.slice 2 (c) .no), (.slice 5 (d) .no), (.slice 5 (e) .no)])), (9, (.func (.func f_tree_lowName) [] []))], lm2 119 [], ⟨[], [], .none, 0⟩⟩
theorem X_Decs3_eq (k : Int) (o : Int) (n : ByteArray) (p : List (List AV)) (a : List (List AV)) (b : List (List AV)) (c : List (List AV)) (d : List (List AV)) (e : List (List AV)) (q2x0 : Bool) (q2x1 : Int) (q2x2 : Int) (q2x3 : Int) (q2x4 : Int) (q2x5 : Int) (q2x6 : Int) (q2x7 : Int) (q2x8 : Int) (q2x9 : Int) (q2x10 : Int) (q2x11 : Int) (q2x12 : Int) : (X_Decs2 k o n p a b c d e q2x0 q2x1 q2x2 q2x3 q2x4 q2x5 q2x6 q2x7 q2x8 q2x9 q2x10 q2x11 q2x12).T.T.T.T.T.T.T.T.T.T.T.T.T.K ⟨tm2 119 [(1, (.ref [(vI (k)), (vI (o)), (vS (n)), (.slice 1 (p) .no), (.slice 4 (a) .no), (.slice 8 (b) .no), (.slice 2 (c) .no), (.slice 5 (d) .no), (.slice 5 (e) .no)])), (9, (.func (.func f_tree_lowName) [] []))], lm2 119 [], ⟨[], [], .none, 0⟩⟩ =
  (.alt
 (.call f_tree_each_string [(.slice 1 (p) .no), (.func (.func f_tree_lowName) [] [])] .none [] ⟨(.ret (.tuple [])), .none, []⟩
  (.alt
   (.call f_tree_each_api_Ty [(.slice 4 (a) .no), (.func (.func f_tree_ty) [] [])] .none [] ⟨(.ret (.tuple [])), .none, []⟩
    (.alt
     (.call f_tree_each_api_Exp [(.slice 8 (b) .no), (.func (.func f_tree_exp) [] [])] .none [] ⟨(.ret (.tuple [])), .none, []⟩
      (.alt
       (.call f_tree_each_api_Con [(.slice 2 (c) .no), (.func (.func f_tree_con) [] [])] .none [] ⟨(.ret (.tuple [])), .none, []⟩
        (.alt
         (.call f_tree_each_api_Mod [(.slice 5 (d) .no), (.func (.func f_tree_mod) [] [])] .none [] ⟨(.ret (.tuple [])), .none, []⟩
          (.alt
           (.call f_tree_each_api_Sig [(.slice 5 (e) .no), (.func (.func f_tree_sig) [] [])] .none [] ⟨(.ret (.tuple [])), .none, []⟩
            (.need true
             (.ret ⟨(.ret (.tuple [])), .none, []⟩)))
           (.exI fun i =>
            (.call f_tree_each_api_Sig [(.slice 5 (e) .no), (.func (.func f_tree_sig) [] [])] .none [] ⟨(.panic (.iface y_tree_wrong (vI (i)))), .none, []⟩
             (.need true
              (.ret ⟨(.panic (.iface y_tree_wrong (vI (i)))), .none, []⟩))))))
         (.exI fun i =>
          (.call f_tree_each_api_Mod [(.slice 5 (d) .no), (.func (.func f_tree_mod) [] [])] .none [] ⟨(.panic (.iface y_tree_wrong (vI (i)))), .none, []⟩
           (.need true
            (.ret ⟨(.panic (.iface y_tree_wrong (vI (i)))), .none, []⟩))))))
       (.exI fun i =>
        (.call f_tree_each_api_Con [(.slice 2 (c) .no), (.func (.func f_tree_con) [] [])] .none [] ⟨(.panic (.iface y_tree_wrong (vI (i)))), .none, []⟩
         (.need true
          (.ret ⟨(.panic (.iface y_tree_wrong (vI (i)))), .none, []⟩))))))
     (.exI fun i =>
      (.call f_tree_each_api_Exp [(.slice 8 (b) .no), (.func (.func f_tree_exp) [] [])] .none [] ⟨(.panic (.iface y_tree_wrong (vI (i)))), .none, []⟩
       (.need true
        (.ret ⟨(.panic (.iface y_tree_wrong (vI (i)))), .none, []⟩))))))
   (.exI fun i =>
    (.call f_tree_each_api_Ty [(.slice 4 (a) .no), (.func (.func f_tree_ty) [] [])] .none [] ⟨(.panic (.iface y_tree_wrong (vI (i)))), .none, []⟩
     (.need true
      (.ret ⟨(.panic (.iface y_tree_wrong (vI (i)))), .none, []⟩))))))
 (.exI fun i =>
  (.call f_tree_each_string [(.slice 1 (p) .no), (.func (.func f_tree_lowName) [] [])] .none [] ⟨(.panic (.iface y_tree_wrong (vI (i)))), .none, []⟩
   (.need true
    (.ret ⟨(.panic (.iface y_tree_wrong (vI (i)))), .none, []⟩))))) := by kernel_rfl

@[irreducible] noncomputable def X_Mod (k : Int) (p : List (List AV)) (a : List (List AV)) (b : List (List AV)) (c : List (List AV)) : KT := kt2 f_tree_mod [AV.agg [vI k, AV.slice 1 p Own.no, AV.slice 9 a Own.no, AV.slice 5 b Own.no, AV.slice 5 c Own.no]] []
theorem X_Mod_eq (k : Int) (p : List (List AV)) (a : List (List AV)) (b : List (List AV)) (c : List (List AV)) : kt2 f_tree_mod [AV.agg [vI k, AV.slice 1 p Own.no, AV.slice 9 a Own.no, AV.slice 5 b Own.no, AV.slice 5 c Own.no]] [] =
  (.stage
 (.branch (decide (k ≥ 1))
  (.alt
   (.call f_tree_ask [(vB (decide (k ≤ 6)))] .none [] ⟨(.ret (.tuple [])), .none, []⟩
    (.done ⟨tm2 81 [(1, (.ref [(vI (k)), (.slice 1 (p) .no), (.slice 9 (a) .no), (.slice 5 (b) .no), (.slice 5 (c) .no)]))], lm2 81 [], ⟨[], [], .none, 0⟩⟩))
   (.exI fun i =>
    (.call f_tree_ask [(vB (decide (k ≤ 6)))] .none [] ⟨(.panic (.iface y_tree_wrong (vI (i)))), .none, []⟩
     (.out (.need true
      (.ret ⟨(.panic (.iface y_tree_wrong (vI (i)))), .none, []⟩))))))
  (.alt
   (.call f_tree_ask [(vB false)] .none [] ⟨(.ret (.tuple [])), .none, []⟩
    (.done ⟨tm2 81 [(1, (.ref [(vI (k)), (.slice 1 (p) .no), (.slice 9 (a) .no), (.slice 5 (b) .no), (.slice 5 (c) .no)]))], lm2 81 [], ⟨[], [], .none, 0⟩⟩))
   (.exI fun i =>
    (.call f_tree_ask [(vB false)] .none [] ⟨(.panic (.iface y_tree_wrong (vI (i)))), .none, []⟩
     (.out (.need true
      (.ret ⟨(.panic (.iface y_tree_wrong (vI (i)))), .none, []⟩)))))))
 ((X_Mod k p a b c).K)) := by kernel_rfl

@[irreducible] noncomputable def X_Mods1 (k : Int) (p : List (List AV)) (a : List (List AV)) (b : List (List AV)) (c : List (List AV)) : KT := (X_Mod k p a b c).K ⟨tm2 81 [(1, (.ref [(vI (k)), (.slice 1 (p) .no), (.slice 9 (a) .no), (.slice 5 (b) .no), (.slice 5 (c) .no)]))], lm2 81 [], ⟨[], [], .none, 0⟩⟩
theorem X_Mods1_eq (k : Int) (p : List (List AV)) (a : List (List AV)) (b : List (List AV)) (c : List (List AV)) : (X_Mod k p a b c).K ⟨tm2 81 [(1, (.ref [(vI (k)), (.slice 1 (p) .no), (.slice 9 (a) .no), (.slice 5 (b) .no), (.slice 5 (c) .no)]))], lm2 81 [], ⟨[], [], .none, 0⟩⟩ =
  (.stage
 (.branch (k == 1)
  (.done ⟨tm2 81 [(1, (.ref [(vI (k)), (.slice 1 (p) .no), (.slice 9 (a) .no), (.slice 5 (b) .no), (.slice 5 (c) .no)])), (2, (vB true))], lm2 81 [], ⟨[], [], .none, 0⟩⟩)
  (.done ⟨tm2 81 [(1, (.ref [(vI (k)), (.slice 1 (p) .no), (.slice 9 (a) .no), (.slice 5 (b) .no), (.slice 5 (c) .no)])), (2, (vB (k == 3)))], lm2 81 [], ⟨[], [], .none, 0⟩⟩))
 ((X_Mods1 k p a b c).K)) := by kernel_rfl

@[irreducible] noncomputable def X_Mods2 (k : Int) (p : List (List AV)) (a : List (List AV)) (b : List (List AV)) (c : List (List AV)) (q2x0 : Bool) : KT := (X_Mods1 k p a b c).K ⟨tm2 81 [(1, (.ref [(vI (k)), (.slice 1 (p) .no), (.slice 9 (a) .no), (.slice 5 (b) .no), (.slice 5 (c) .no)])), (2, (vB (q2x0)))], lm2 81 [], ⟨[], [], .none, 0⟩⟩
theorem X_Mods2_eq (k : Int) (p : List (List AV)) (a : List (List AV)) (b : List (List AV)) (c : List (List AV)) (q2x0 : Bool) : (X_Mods1 k p a b c).K ⟨tm2 81 [(1, (.ref [(vI (k)), (.slice 1 (p) .no), (.slice 9 (a) .no), (.slice 5 (b) .no), (.slice 5 (c) .no)])), (2, (vB (q2x0)))], lm2 81 [], ⟨[], [], .none, 0⟩⟩ =
  (.stage
 (.branch (k == 1)
  (.done ⟨tm2 81 [(1, (.ref [(vI (k)), (.slice 1 (p) .no), (.slice 9 (a) .no), (.slice 5 (b) .no), (.slice 5 (c) .no)])), (2, (vB (q2x0))), (3, (vI (0))), (4, (vI (0)))], lm2 81 [], ⟨[], [], .none, 0⟩⟩)
  (.branch (k == 2)
   (.done ⟨tm2 81 [(1, (.ref [(vI (k)), (.slice 1 (p) .no), (.slice 9 (a) .no), (.slice 5 (b) .no), (.slice 5 (c) .no)])), (2, (vB (q2x0))), (3, (vI (0))), (4, (vI (0)))], lm2 81 [], ⟨[], [], .none, 0⟩⟩)
   (.branch (k == 4)
    (.done ⟨tm2 81 [(1, (.ref [(vI (k)), (.slice 1 (p) .no), (.slice 9 (a) .no), (.slice 5 (b) .no), (.slice 5 (c) .no)])), (2, (vB (q2x0))), (3, (vI (1))), (4, (vI (1)))], lm2 81 [], ⟨[], [], .none, 0⟩⟩)
    (.branch (k == 5)
     (.done ⟨tm2 81 [(1, (.ref [(vI (k)), (.slice 1 (p) .no), (.slice 9 (a) .no), (.slice 5 (b) .no), (.slice 5 (c) .no)])), (2, (vB (q2x0))), (3, (vI (1))), (4, (vI (1)))], lm2 81 [], ⟨[], [], .none, 0⟩⟩)
     (.done ⟨tm2 81 [(1, (.ref [(vI (k)), (.slice 1 (p) .no), (.slice 9 (a) .no), (.slice 5 (b) .no), (.slice 5 (c) .no)])), (2, (vB (q2x0))), (3, (vI (1))), (4, (vI (0)))], lm2 81 [], ⟨[], [], .none, 0⟩⟩)))))
 ((X_Mods2 k p a b c q2x0).K)) := by kernel_rfl

@[irreducible] noncomputable def X_Mods3 (k : Int) (p : List (List AV)) (a : List (List AV)) (b : List (List AV)) (c : List (List AV)) (q2x0 : Bool) (q3x0 : Int) (q3x1 : Int) : KT := (X_Mods2 k p a b c q2x0).K ⟨tm2 81 [(1, (.ref [(vI (k)), (.slice 1 (p) .no), (.slice 9 (a) .no), (.slice 5 (b) .no), (.slice 5 (c) .no)])), (2, (vB (q2x0))), (3, (vI (q3x0))), (4, (vI (q3x1)))], lm2 81 [], ⟨[], [], .none, 0⟩⟩
theorem X_Mods3_eq (k : Int) (p : List (List AV)) (a : List (List AV)) (b : List (List AV)) (c : List (List AV)) (q2x0 : Bool) (q3x0 : Int) (q3x1 : Int) : (X_Mods2 k p a b c q2x0).K ⟨tm2 81 [(1, (.ref [(vI (k)), (.slice 1 (p) .no), (.slice 9 (a) .no), (.slice 5 (b) .no), (.slice 5 (c) .no)])), (2, (vB (q2x0))), (3, (vI (q3x0))), (4, (vI (q3x1)))], lm2 81 [], ⟨[], [], .none, 0⟩⟩ =
  (.stage
 (.branch (q2x0)
  (.branch (k == 2)
   (.branch ((↑b.length : Int) == q3x0)
    (.alt
     (.call f_tree_ask [(vB ((↑c.length : Int) == q3x1))] .none [] ⟨(.ret (.tuple [])), .none, []⟩
      (.done ⟨tm2 81 [(1, (.ref [(vI (k)), (.slice 1 (p) .no), (.slice 9 (a) .no), (.slice 5 (b) .no), (.slice 5 (c) .no)])), (2, (vB (q2x0)))], lm2 81 [], ⟨[], [], .none, 0⟩⟩))
     (.exI fun i =>
      (.call f_tree_ask [(vB ((↑c.length : Int) == q3x1))] .none [] ⟨(.panic (.iface y_tree_wrong (vI (i)))), .none, []⟩
       (.out (.need true
        (.ret ⟨(.panic (.iface y_tree_wrong (vI (i)))), .none, []⟩))))))
    (.alt
     (.call f_tree_ask [(vB false)] .none [] ⟨(.ret (.tuple [])), .none, []⟩
      (.done ⟨tm2 81 [(1, (.ref [(vI (k)), (.slice 1 (p) .no), (.slice 9 (a) .no), (.slice 5 (b) .no), (.slice 5 (c) .no)])), (2, (vB (q2x0)))], lm2 81 [], ⟨[], [], .none, 0⟩⟩))
     (.exI fun i =>
      (.call f_tree_ask [(vB false)] .none [] ⟨(.panic (.iface y_tree_wrong (vI (i)))), .none, []⟩
       (.out (.need true
        (.ret ⟨(.panic (.iface y_tree_wrong (vI (i)))), .none, []⟩)))))))
   (.branch (k == 6)
    (.branch ((↑b.length : Int) == q3x0)
     (.alt
      (.call f_tree_ask [(vB ((↑c.length : Int) == q3x1))] .none [] ⟨(.ret (.tuple [])), .none, []⟩
       (.done ⟨tm2 81 [(1, (.ref [(vI (k)), (.slice 1 (p) .no), (.slice 9 (a) .no), (.slice 5 (b) .no), (.slice 5 (c) .no)])), (2, (vB (q2x0)))], lm2 81 [], ⟨[], [], .none, 0⟩⟩))
      (.exI fun i =>
       (.call f_tree_ask [(vB ((↑c.length : Int) == q3x1))] .none [] ⟨(.panic (.iface y_tree_wrong (vI (i)))), .none, []⟩
        (.out (.need true
         (.ret ⟨(.panic (.iface y_tree_wrong (vI (i)))), .none, []⟩))))))
     (.alt
      (.call f_tree_ask [(vB false)] .none [] ⟨(.ret (.tuple [])), .none, []⟩
       (.done ⟨tm2 81 [(1, (.ref [(vI (k)), (.slice 1 (p) .no), (.slice 9 (a) .no), (.slice 5 (b) .no), (.slice 5 (c) .no)])), (2, (vB (q2x0)))], lm2 81 [], ⟨[], [], .none, 0⟩⟩))
      (.exI fun i =>
       (.call f_tree_ask [(vB false)] .none [] ⟨(.panic (.iface y_tree_wrong (vI (i)))), .none, []⟩
        (.out (.need true
         (.ret ⟨(.panic (.iface y_tree_wrong (vI (i)))), .none, []⟩)))))))
    (.branch ((↑a.length : Int) == 0)
     (.branch ((↑b.length : Int) == q3x0)
      (.alt
       (.call f_tree_ask [(vB ((↑c.length : Int) == q3x1))] .none [] ⟨(.ret (.tuple [])), .none, []⟩
        (.done ⟨tm2 81 [(1, (.ref [(vI (k)), (.slice 1 (p) .no), (.slice 9 (a) .no), (.slice 5 (b) .no), (.slice 5 (c) .no)])), (2, (vB (q2x0)))], lm2 81 [], ⟨[], [], .none, 0⟩⟩))
       (.exI fun i =>
        (.call f_tree_ask [(vB ((↑c.length : Int) == q3x1))] .none [] ⟨(.panic (.iface y_tree_wrong (vI (i)))), .none, []⟩
         (.out (.need true
          (.ret ⟨(.panic (.iface y_tree_wrong (vI (i)))), .none, []⟩))))))
      (.alt
       (.call f_tree_ask [(vB false)] .none [] ⟨(.ret (.tuple [])), .none, []⟩
        (.done ⟨tm2 81 [(1, (.ref [(vI (k)), (.slice 1 (p) .no), (.slice 9 (a) .no), (.slice 5 (b) .no), (.slice 5 (c) .no)])), (2, (vB (q2x0)))], lm2 81 [], ⟨[], [], .none, 0⟩⟩))
       (.exI fun i =>
        (.call f_tree_ask [(vB false)] .none [] ⟨(.panic (.iface y_tree_wrong (vI (i)))), .none, []⟩
         (.out (.need true
          (.ret ⟨(.panic (.iface y_tree_wrong (vI (i)))), .none, []⟩)))))))
     (.alt
      (.call f_tree_ask [(vB false)] .none [] ⟨(.ret (.tuple [])), .none, []⟩
       (.done ⟨tm2 81 [(1, (.ref [(vI (k)), (.slice 1 (p) .no), (.slice 9 (a) .no), (.slice 5 (b) .no), (.slice 5 (c) .no)])), (2, (vB (q2x0)))], lm2 81 [], ⟨[], [], .none, 0⟩⟩))
      (.exI fun i =>
       (.call f_tree_ask [(vB false)] .none [] ⟨(.panic (.iface y_tree_wrong (vI (i)))), .none, []⟩
        (.out (.need true
         (.ret ⟨(.panic (.iface y_tree_wrong (vI (i)))), .none, []⟩)))))))))
  (.branch ((↑p.length : Int) == 0)
   (.branch (k == 2)
    (.branch ((↑b.length : Int) == q3x0)
     (.alt
      (.call f_tree_ask [(vB ((↑c.length : Int) == q3x1))] .none [] ⟨(.ret (.tuple [])), .none, []⟩
       (.done ⟨tm2 81 [(1, (.ref [(vI (k)), (.slice 1 (p) .no), (.slice 9 (a) .no), (.slice 5 (b) .no), (.slice 5 (c) .no)])), (2, (vB (q2x0)))], lm2 81 [], ⟨[], [], .none, 0⟩⟩))
      (.exI fun i =>
       (.call f_tree_ask [(vB ((↑c.length : Int) == q3x1))] .none [] ⟨(.panic (.iface y_tree_wrong (vI (i)))), .none, []⟩
        (.out (.need true
         (.ret ⟨(.panic (.iface y_tree_wrong (vI (i)))), .none, []⟩))))))
     (.alt
      (.call f_tree_ask [(vB false)] .none [] ⟨(.ret (.tuple [])), .none, []⟩
       (.done ⟨tm2 81 [(1, (.ref [(vI (k)), (.slice 1 (p) .no), (.slice 9 (a) .no), (.slice 5 (b) .no), (.slice 5 (c) .no)])), (2, (vB (q2x0)))], lm2 81 [], ⟨[], [], .none, 0⟩⟩))
      (.exI fun i =>
       (.call f_tree_ask [(vB false)] .none [] ⟨(.panic (.iface y_tree_wrong (vI (i)))), .none, []⟩
        (.out (.need true
         (.ret ⟨(.panic (.iface y_tree_wrong (vI (i)))), .none, []⟩)))))))
    (.branch (k == 6)
     (.branch ((↑b.length : Int) == q3x0)
      (.alt
       (.call f_tree_ask [(vB ((↑c.length : Int) == q3x1))] .none [] ⟨(.ret (.tuple [])), .none, []⟩
        (.done ⟨tm2 81 [(1, (.ref [(vI (k)), (.slice 1 (p) .no), (.slice 9 (a) .no), (.slice 5 (b) .no), (.slice 5 (c) .no)])), (2, (vB (q2x0)))], lm2 81 [], ⟨[], [], .none, 0⟩⟩))
       (.exI fun i =>
        (.call f_tree_ask [(vB ((↑c.length : Int) == q3x1))] .none [] ⟨(.panic (.iface y_tree_wrong (vI (i)))), .none, []⟩
         (.out (.need true
          (.ret ⟨(.panic (.iface y_tree_wrong (vI (i)))), .none, []⟩))))))
      (.alt
       (.call f_tree_ask [(vB false)] .none [] ⟨(.ret (.tuple [])), .none, []⟩
        (.done ⟨tm2 81 [(1, (.ref [(vI (k)), (.slice 1 (p) .no), (.slice 9 (a) .no), (.slice 5 (b) .no), (.slice 5 (c) .no)])), (2, (vB (q2x0)))], lm2 81 [], ⟨[], [], .none, 0⟩⟩))
       (.exI fun i =>
        (.call f_tree_ask [(vB false)] .none [] ⟨(.panic (.iface y_tree_wrong (vI (i)))), .none, []⟩
         (.out (.need true
          (.ret ⟨(.panic (.iface y_tree_wrong (vI (i)))), .none, []⟩)))))))
     (.branch ((↑a.length : Int) == 0)
      (.branch ((↑b.length : Int) == q3x0)
       (.alt
        (.call f_tree_ask [(vB ((↑c.length : Int) == q3x1))] .none [] ⟨(.ret (.tuple [])), .none, []⟩
         (.done ⟨tm2 81 [(1, (.ref [(vI (k)), (.slice 1 (p) .no), (.slice 9 (a) .no), (.slice 5 (b) .no), (.slice 5 (c) .no)])), (2, (vB (q2x0)))], lm2 81 [], ⟨[], [], .none, 0⟩⟩))
        (.exI fun i =>
         (.call f_tree_ask [(vB ((↑c.length : Int) == q3x1))] .none [] ⟨(.panic (.iface y_tree_wrong (vI (i)))), .none, []⟩
          (.out (.need true
           (.ret ⟨(.panic (.iface y_tree_wrong (vI (i)))), .none, []⟩))))))
       (.alt
        (.call f_tree_ask [(vB false)] .none [] ⟨(.ret (.tuple [])), .none, []⟩
         (.done ⟨tm2 81 [(1, (.ref [(vI (k)), (.slice 1 (p) .no), (.slice 9 (a) .no), (.slice 5 (b) .no), (.slice 5 (c) .no)])), (2, (vB (q2x0)))], lm2 81 [], ⟨[], [], .none, 0⟩⟩))
        (.exI fun i =>
         (.call f_tree_ask [(vB false)] .none [] ⟨(.panic (.iface y_tree_wrong (vI (i)))), .none, []⟩
          (.out (.need true
           (.ret ⟨(.panic (.iface y_tree_wrong (vI (i)))), .none, []⟩)))))))
      (.alt
       (.call f_tree_ask [(vB false)] .none [] ⟨(.ret (.tuple [])), .none, []⟩
        (.done ⟨tm2 81 [(1, (.ref [(vI (k)), (.slice 1 (p) .no), (.slice 9 (a) .no), (.slice 5 (b) .no), (.slice 5 (c) .no)])), (2, (vB (q2x0)))], lm2 81 [], ⟨[], [], .none, 0⟩⟩))
       (.exI fun i =>
        (.call f_tree_ask [(vB false)] .none [] ⟨(.panic (.iface y_tree_wrong (vI (i)))), .none, []⟩
         (.out (.need true
          (.ret ⟨(.panic (.iface y_tree_wrong (vI (i)))), .none, []⟩)))))))))
   (.alt
    (.call f_tree_ask [(vB false)] .none [] ⟨(.ret (.tuple [])), .none, []⟩
     (.done ⟨tm2 81 [(1, (.ref [(vI (k)), (.slice 1 (p) .no), (.slice 9 (a) .no), (.slice 5 (b) .no), (.slice 5 (c) .no)])), (2, (vB (q2x0)))], lm2 81 [], ⟨[], [], .none, 0⟩⟩))
    (.exI fun i =>
     (.call f_tree_ask [(vB false)] .none [] ⟨(.panic (.iface y_tree_wrong (vI (i)))), .none, []⟩
      (.out (.need true
       (.ret ⟨(.panic (.iface y_tree_wrong (vI (i)))), .none, []⟩))))))))
 ((X_Mods3 k p a b c q2x0 q3x0 q3x1).K)) := by kernel_rfl

@[irreducible] noncomputable def X_Mods4 (k : Int) (p : List (List AV)) (a : List (List AV)) (b : List (List AV)) (c : List (List AV)) (q2x0 : Bool) (q3x0 : Int) (q3x1 : Int) : KT := (X_Mods3 k p a b c q2x0 q3x0 q3x1).K ⟨tm2 81 [(1, (.ref [(vI (k)), (.slice 1 (p) .no), (.slice 9 (a) .no), (.slice 5 (b) .no), (.slice 5 (c) .no)])), (2, (vB (q2x0)))], lm2 81 [], ⟨[], [], .none, 0⟩⟩
theorem X_Mods4_eq (k : Int) (p : List (List AV)) (a : List (List AV)) (b : List (List AV)) (c : List (List AV)) (q2x0 : Bool) (q3x0 : Int) (q3x1 : Int) : (X_Mods3 k p a b c q2x0 q3x0 q3x1).K ⟨tm2 81 [(1, (.ref [(vI (k)), (.slice 1 (p) .no), (.slice 9 (a) .no), (.slice 5 (b) .no), (.slice 5 (c) .no)])), (2, (vB (q2x0)))], lm2 81 [], ⟨[], [], .none, 0⟩⟩ =
  (.stage
 (.branch (q2x0)
  (.alt
   (.call f_tree_highPath [(.slice 1 (p) .no)] .none [] ⟨(.ret (.tuple [])), .none, []⟩
    (.done ⟨tm2 81 [(1, (.ref [(vI (k)), (.slice 1 (p) .no), (.slice 9 (a) .no), (.slice 5 (b) .no), (.slice 5 (c) .no)]))], lm2 81 [], ⟨[], [], .none, 0⟩⟩))
   (.exI fun i =>
    (.call f_tree_highPath [(.slice 1 (p) .no)] .none [] ⟨(.panic (.iface y_tree_wrong (vI (i)))), .none, []⟩
     (.out (.need true
      (.ret ⟨(.panic (.iface y_tree_wrong (vI (i)))), .none, []⟩))))))
  (.done ⟨tm2 81 [(1, (.ref [(vI (k)), (.slice 1 (p) .no), (.slice 9 (a) .no), (.slice 5 (b) .no), (.slice 5 (c) .no)]))], lm2 81 [], ⟨[], [], .none, 0⟩⟩))
 ((X_Mods4 k p a b c q2x0 q3x0 q3x1).K)) := by kernel_rfl

@[irreducible] noncomputable def X_Mods5 (k : Int) (p : List (List AV)) (a : List (List AV)) (b : List (List AV)) (c : List (List AV)) (q2x0 : Bool) (q3x0 : Int) (q3x1 : Int) : KT := (X_Mods4 k p a b c q2x0 q3x0 q3x1).K ⟨tm2 81 [(1, (.ref [(vI (k)), (.slice 1 (p) .no), (.slice 9 (a) .no), (.slice 5 (b) .no), (.slice 5 (c) .no)]))], lm2 81 [], ⟨[], [], .none, 0⟩⟩
theorem X_Mods5_eq (k : Int) (p : List (List AV)) (a : List (List AV)) (b : List (List AV)) (c : List (List AV)) (q2x0 : Bool) (q3x0 : Int) (q3x1 : Int) : (X_Mods4 k p a b c q2x0 q3x0 q3x1).K ⟨tm2 81 [(1, (.ref [(vI (k)), (.slice 1 (p) .no), (.slice 9 (a) .no), (.slice 5 (b) .no), (.slice 5 (c) .no)]))], lm2 81 [], ⟨[], [], .none, 0⟩⟩ =
  (.alt
 (.call f_tree_each_api_Dec [(.slice 9 (a) .no), (.func (.func f_tree_dec) [] [])] .none [] ⟨(.ret (.tuple [])), .none, []⟩
  (.alt
   (.call f_tree_each_api_Mod [(.slice 5 (b) .no), (.func (.func f_tree_mod) [] [])] .none [] ⟨(.ret (.tuple [])), .none, []⟩
    (.alt
     (.call f_tree_each_api_Sig [(.slice 5 (c) .no), (.func (.func f_tree_sig) [] [])] .none [] ⟨(.ret (.tuple [])), .none, []⟩
      (.need true
       (.ret ⟨(.ret (.tuple [])), .none, []⟩)))
     (.exI fun i =>
      (.call f_tree_each_api_Sig [(.slice 5 (c) .no), (.func (.func f_tree_sig) [] [])] .none [] ⟨(.panic (.iface y_tree_wrong (vI (i)))), .none, []⟩
       (.need true
        (.ret ⟨(.panic (.iface y_tree_wrong (vI (i)))), .none, []⟩))))))
   (.exI fun i =>
    (.call f_tree_each_api_Mod [(.slice 5 (b) .no), (.func (.func f_tree_mod) [] [])] .none [] ⟨(.panic (.iface y_tree_wrong (vI (i)))), .none, []⟩
     (.need true
      (.ret ⟨(.panic (.iface y_tree_wrong (vI (i)))), .none, []⟩))))))
 (.exI fun i =>
  (.call f_tree_each_api_Dec [(.slice 9 (a) .no), (.func (.func f_tree_dec) [] [])] .none [] ⟨(.panic (.iface y_tree_wrong (vI (i)))), .none, []⟩
   (.need true
    (.ret ⟨(.panic (.iface y_tree_wrong (vI (i)))), .none, []⟩))))) := by kernel_rfl

@[irreducible] noncomputable def X_Sig (k : Int) (p : List (List AV)) (a : List (List AV)) (b : List (List AV)) (c : List (List AV)) : KT := kt2 f_tree_sig [AV.agg [vI k, AV.slice 1 p Own.no, AV.slice 6 a Own.no, AV.slice 5 b Own.no, AV.slice 4 c Own.no]] []
theorem X_Sig_eq (k : Int) (p : List (List AV)) (a : List (List AV)) (b : List (List AV)) (c : List (List AV)) : kt2 f_tree_sig [AV.agg [vI k, AV.slice 1 p Own.no, AV.slice 6 a Own.no, AV.slice 5 b Own.no, AV.slice 4 c Own.no]] [] =
  (.stage
 (.branch (decide (k ≥ 1))
  (.alt
   (.call f_tree_ask [(vB (decide (k ≤ 3)))] .none [] ⟨(.ret (.tuple [])), .none, []⟩
    (.done ⟨tm2 71 [(1, (.ref [(vI (k)), (.slice 1 (p) .no), (.slice 6 (a) .no), (.slice 5 (b) .no), (.slice 4 (c) .no)]))], lm2 71 [], ⟨[], [], .none, 0⟩⟩))
   (.exI fun i =>
    (.call f_tree_ask [(vB (decide (k ≤ 3)))] .none [] ⟨(.panic (.iface y_tree_wrong (vI (i)))), .none, []⟩
     (.out (.need true
      (.ret ⟨(.panic (.iface y_tree_wrong (vI (i)))), .none, []⟩))))))
  (.alt
   (.call f_tree_ask [(vB false)] .none [] ⟨(.ret (.tuple [])), .none, []⟩
    (.done ⟨tm2 71 [(1, (.ref [(vI (k)), (.slice 1 (p) .no), (.slice 6 (a) .no), (.slice 5 (b) .no), (.slice 4 (c) .no)]))], lm2 71 [], ⟨[], [], .none, 0⟩⟩))
   (.exI fun i =>
    (.call f_tree_ask [(vB false)] .none [] ⟨(.panic (.iface y_tree_wrong (vI (i)))), .none, []⟩
     (.out (.need true
      (.ret ⟨(.panic (.iface y_tree_wrong (vI (i)))), .none, []⟩)))))))
 ((X_Sig k p a b c).K)) := by kernel_rfl

@[irreducible] noncomputable def X_Sigs1 (k : Int) (p : List (List AV)) (a : List (List AV)) (b : List (List AV)) (c : List (List AV)) : KT := (X_Sig k p a b c).K ⟨tm2 71 [(1, (.ref [(vI (k)), (.slice 1 (p) .no), (.slice 6 (a) .no), (.slice 5 (b) .no), (.slice 4 (c) .no)]))], lm2 71 [], ⟨[], [], .none, 0⟩⟩
theorem X_Sigs1_eq (k : Int) (p : List (List AV)) (a : List (List AV)) (b : List (List AV)) (c : List (List AV)) : (X_Sig k p a b c).K ⟨tm2 71 [(1, (.ref [(vI (k)), (.slice 1 (p) .no), (.slice 6 (a) .no), (.slice 5 (b) .no), (.slice 4 (c) .no)]))], lm2 71 [], ⟨[], [], .none, 0⟩⟩ =
  (.stage
 (.branch (k == 3)
  (.done ⟨tm2 71 [(1, (.ref [(vI (k)), (.slice 1 (p) .no), (.slice 6 (a) .no), (.slice 5 (b) .no), (.slice 4 (c) .no)])), (2, (vI (1)))], lm2 71 [], ⟨[], [], .none, 0⟩⟩)
  (.done ⟨tm2 71 [(1, (.ref [(vI (k)), (.slice 1 (p) .no), (.slice 6 (a) .no), (.slice 5 (b) .no), (.slice 4 (c) .no)])), (2, (vI (0)))], lm2 71 [], ⟨[], [], .none, 0⟩⟩))
 ((X_Sigs1 k p a b c).K)) := by kernel_rfl

@[irreducible] noncomputable def X_Sigs2 (k : Int) (p : List (List AV)) (a : List (List AV)) (b : List (List AV)) (c : List (List AV)) (q2x0 : Int) : KT := (X_Sigs1 k p a b c).K ⟨tm2 71 [(1, (.ref [(vI (k)), (.slice 1 (p) .no), (.slice 6 (a) .no), (.slice 5 (b) .no), (.slice 4 (c) .no)])), (2, (vI (q2x0)))], lm2 71 [], ⟨[], [], .none, 0⟩⟩
theorem X_Sigs2_eq (k : Int) (p : List (List AV)) (a : List (List AV)) (b : List (List AV)) (c : List (List AV)) (q2x0 : Int) : (X_Sigs1 k p a b c).K ⟨tm2 71 [(1, (.ref [(vI (k)), (.slice 1 (p) .no), (.slice 6 (a) .no), (.slice 5 (b) .no), (.slice 4 (c) .no)])), (2, (vI (q2x0)))], lm2 71 [], ⟨[], [], .none, 0⟩⟩ =
  (.stage
 (.branch (k != 2)
  (.branch (k == 2)
   (.branch ((↑b.length : Int) == q2x0)
    (.alt
     (.call f_tree_ask [(vB ((↑c.length : Int) == q2x0))] .none [] ⟨(.ret (.tuple [])), .none, []⟩
      (.done ⟨tm2 71 [(1, (.ref [(vI (k)), (.slice 1 (p) .no), (.slice 6 (a) .no), (.slice 5 (b) .no), (.slice 4 (c) .no)]))], lm2 71 [], ⟨[], [], .none, 0⟩⟩))
     (.exI fun i =>
      (.call f_tree_ask [(vB ((↑c.length : Int) == q2x0))] .none [] ⟨(.panic (.iface y_tree_wrong (vI (i)))), .none, []⟩
       (.out (.need true
        (.ret ⟨(.panic (.iface y_tree_wrong (vI (i)))), .none, []⟩))))))
    (.alt
     (.call f_tree_ask [(vB false)] .none [] ⟨(.ret (.tuple [])), .none, []⟩
      (.done ⟨tm2 71 [(1, (.ref [(vI (k)), (.slice 1 (p) .no), (.slice 6 (a) .no), (.slice 5 (b) .no), (.slice 4 (c) .no)]))], lm2 71 [], ⟨[], [], .none, 0⟩⟩))
     (.exI fun i =>
      (.call f_tree_ask [(vB false)] .none [] ⟨(.panic (.iface y_tree_wrong (vI (i)))), .none, []⟩
       (.out (.need true
        (.ret ⟨(.panic (.iface y_tree_wrong (vI (i)))), .none, []⟩)))))))
   (.branch ((↑a.length : Int) == 0)
    (.branch ((↑b.length : Int) == q2x0)
     (.alt
      (.call f_tree_ask [(vB ((↑c.length : Int) == q2x0))] .none [] ⟨(.ret (.tuple [])), .none, []⟩
       (.done ⟨tm2 71 [(1, (.ref [(vI (k)), (.slice 1 (p) .no), (.slice 6 (a) .no), (.slice 5 (b) .no), (.slice 4 (c) .no)]))], lm2 71 [], ⟨[], [], .none, 0⟩⟩))
      (.exI fun i =>
       (.call f_tree_ask [(vB ((↑c.length : Int) == q2x0))] .none [] ⟨(.panic (.iface y_tree_wrong (vI (i)))), .none, []⟩
        (.out (.need true
         (.ret ⟨(.panic (.iface y_tree_wrong (vI (i)))), .none, []⟩))))))
     (.alt
      (.call f_tree_ask [(vB false)] .none [] ⟨(.ret (.tuple [])), .none, []⟩
       (.done ⟨tm2 71 [(1, (.ref [(vI (k)), (.slice 1 (p) .no), (.slice 6 (a) .no), (.slice 5 (b) .no), (.slice 4 (c) .no)]))], lm2 71 [], ⟨[], [], .none, 0⟩⟩))
      (.exI fun i =>
       (.call f_tree_ask [(vB false)] .none [] ⟨(.panic (.iface y_tree_wrong (vI (i)))), .none, []⟩
        (.out (.need true
         (.ret ⟨(.panic (.iface y_tree_wrong (vI (i)))), .none, []⟩)))))))
    (.alt
     (.call f_tree_ask [(vB false)] .none [] ⟨(.ret (.tuple [])), .none, []⟩
      (.done ⟨tm2 71 [(1, (.ref [(vI (k)), (.slice 1 (p) .no), (.slice 6 (a) .no), (.slice 5 (b) .no), (.slice 4 (c) .no)]))], lm2 71 [], ⟨[], [], .none, 0⟩⟩))
     (.exI fun i =>
      (.call f_tree_ask [(vB false)] .none [] ⟨(.panic (.iface y_tree_wrong (vI (i)))), .none, []⟩
       (.out (.need true
        (.ret ⟨(.panic (.iface y_tree_wrong (vI (i)))), .none, []⟩))))))))
  (.branch ((↑p.length : Int) == 0)
   (.branch (k == 2)
    (.branch ((↑b.length : Int) == q2x0)
     (.alt
      (.call f_tree_ask [(vB ((↑c.length : Int) == q2x0))] .none [] ⟨(.ret (.tuple [])), .none, []⟩
       (.done ⟨tm2 71 [(1, (.ref [(vI (k)), (.slice 1 (p) .no), (.slice 6 (a) .no), (.slice 5 (b) .no), (.slice 4 (c) .no)]))], lm2 71 [], ⟨[], [], .none, 0⟩⟩))
      (.exI fun i =>
       (.call f_tree_ask [(vB ((↑c.length : Int) == q2x0))] .none [] ⟨(.panic (.iface y_tree_wrong (vI (i)))), .none, []⟩
        (.out (.need true
         (.ret ⟨(.panic (.iface y_tree_wrong (vI (i)))), .none, []⟩))))))
     (.alt
      (.call f_tree_ask [(vB false)] .none [] ⟨(.ret (.tuple [])), .none, []⟩
       (.done ⟨tm2 71 [(1, (.ref [(vI (k)), (.slice 1 (p) .no), (.slice 6 (a) .no), (.slice 5 (b) .no), (.slice 4 (c) .no)]))], lm2 71 [], ⟨[], [], .none, 0⟩⟩))
      (.exI fun i =>
       (.call f_tree_ask [(vB false)] .none [] ⟨(.panic (.iface y_tree_wrong (vI (i)))), .none, []⟩
        (.out (.need true
         (.ret ⟨(.panic (.iface y_tree_wrong (vI (i)))), .none, []⟩)))))))
    (.branch ((↑a.length : Int) == 0)
     (.branch ((↑b.length : Int) == q2x0)
      (.alt
       (.call f_tree_ask [(vB ((↑c.length : Int) == q2x0))] .none [] ⟨(.ret (.tuple [])), .none, []⟩
        (.done ⟨tm2 71 [(1, (.ref [(vI (k)), (.slice 1 (p) .no), (.slice 6 (a) .no), (.slice 5 (b) .no), (.slice 4 (c) .no)]))], lm2 71 [], ⟨[], [], .none, 0⟩⟩))
       (.exI fun i =>
        (.call f_tree_ask [(vB ((↑c.length : Int) == q2x0))] .none [] ⟨(.panic (.iface y_tree_wrong (vI (i)))), .none, []⟩
         (.out (.need true
          (.ret ⟨(.panic (.iface y_tree_wrong (vI (i)))), .none, []⟩))))))
      (.alt
       (.call f_tree_ask [(vB false)] .none [] ⟨(.ret (.tuple [])), .none, []⟩
        (.done ⟨tm2 71 [(1, (.ref [(vI (k)), (.slice 1 (p) .no), (.slice 6 (a) .no), (.slice 5 (b) .no), (.slice 4 (c) .no)]))], lm2 71 [], ⟨[], [], .none, 0⟩⟩))
       (.exI fun i =>
        (.call f_tree_ask [(vB false)] .none [] ⟨(.panic (.iface y_tree_wrong (vI (i)))), .none, []⟩
         (.out (.need true
          (.ret ⟨(.panic (.iface y_tree_wrong (vI (i)))), .none, []⟩)))))))
     (.alt
      (.call f_tree_ask [(vB false)] .none [] ⟨(.ret (.tuple [])), .none, []⟩
       (.done ⟨tm2 71 [(1, (.ref [(vI (k)), (.slice 1 (p) .no), (.slice 6 (a) .no), (.slice 5 (b) .no), (.slice 4 (c) .no)]))], lm2 71 [], ⟨[], [], .none, 0⟩⟩))
      (.exI fun i =>
       (.call f_tree_ask [(vB false)] .none [] ⟨(.panic (.iface y_tree_wrong (vI (i)))), .none, []⟩
        (.out (.need true
         (.ret ⟨(.panic (.iface y_tree_wrong (vI (i)))), .none, []⟩))))))))
   (.alt
    (.call f_tree_ask [(vB false)] .none [] ⟨(.ret (.tuple [])), .none, []⟩
     (.done ⟨tm2 71 [(1, (.ref [(vI (k)), (.slice 1 (p) .no), (.slice 6 (a) .no), (.slice 5 (b) .no), (.slice 4 (c) .no)]))], lm2 71 [], ⟨[], [], .none, 0⟩⟩))
    (.exI fun i =>
     (.call f_tree_ask [(vB false)] .none [] ⟨(.panic (.iface y_tree_wrong (vI (i)))), .none, []⟩
      (.out (.need true
       (.ret ⟨(.panic (.iface y_tree_wrong (vI (i)))), .none, []⟩))))))))
 ((X_Sigs2 k p a b c q2x0).K)) := by kernel_rfl

@[irreducible] noncomputable def X_Sigs3 (k : Int) (p : List (List AV)) (a : List (List AV)) (b : List (List AV)) (c : List (List AV)) (q2x0 : Int) : KT := (X_Sigs2 k p a b c q2x0).K ⟨tm2 71 [(1, (.ref [(vI (k)), (.slice 1 (p) .no), (.slice 6 (a) .no), (.slice 5 (b) .no), (.slice 4 (c) .no)]))], lm2 71 [], ⟨[], [], .none, 0⟩⟩
theorem X_Sigs3_eq (k : Int) (p : List (List AV)) (a : List (List AV)) (b : List (List AV)) (c : List (List AV)) (q2x0 : Int) : (X_Sigs2 k p a b c q2x0).K ⟨tm2 71 [(1, (.ref [(vI (k)), (.slice 1 (p) .no), (.slice 6 (a) .no), (.slice 5 (b) .no), (.slice 4 (c) .no)]))], lm2 71 [], ⟨[], [], .none, 0⟩⟩ =
  (.stage
 (.branch (k == 1)
  (.alt
   (.call f_tree_highPath [(.slice 1 (p) .no)] .none [] ⟨(.ret (.tuple [])), .none, []⟩
    (.done ⟨tm2 71 [(1, (.ref [(vI (k)), (.slice 1 (p) .no), (.slice 6 (a) .no), (.slice 5 (b) .no), (.slice 4 (c) .no)]))], lm2 71 [], ⟨[], [], .none, 0⟩⟩))
   (.exI fun i =>
    (.call f_tree_highPath [(.slice 1 (p) .no)] .none [] ⟨(.panic (.iface y_tree_wrong (vI (i)))), .none, []⟩
     (.out (.need true
      (.ret ⟨(.panic (.iface y_tree_wrong (vI (i)))), .none, []⟩))))))
  (.done ⟨tm2 71 [(1, (.ref [(vI (k)), (.slice 1 (p) .no), (.slice 6 (a) .no), (.slice 5 (b) .no), (.slice 4 (c) .no)]))], lm2 71 [], ⟨[], [], .none, 0⟩⟩))
 ((X_Sigs3 k p a b c q2x0).K)) := by kernel_rfl

@[irreducible] noncomputable def X_Sigs4 (k : Int) (p : List (List AV)) (a : List (List AV)) (b : List (List AV)) (c : List (List AV)) (q2x0 : Int) : KT := (X_Sigs3 k p a b c q2x0).K ⟨tm2 71 [(1, (.ref [(vI (k)), (.slice 1 (p) .no), (.slice 6 (a) .no), (.slice 5 (b) .no), (.slice 4 (c) .no)]))], lm2 71 [], ⟨[], [], .none, 0⟩⟩
theorem X_Sigs4_eq (k : Int) (p : List (List AV)) (a : List (List AV)) (b : List (List AV)) (c : List (List AV)) (q2x0 : Int) : (X_Sigs3 k p a b c q2x0).K ⟨tm2 71 [(1, (.ref [(vI (k)), (.slice 1 (p) .no), (.slice 6 (a) .no), (.slice 5 (b) .no), (.slice 4 (c) .no)]))], lm2 71 [], ⟨[], [], .none, 0⟩⟩ =
  (.stage
 (.branch (k == 3)
  (.alt
   (.call f_tree_lowPath [(.slice 1 (p) .no)] .none [] ⟨(.ret (.tuple [])), .none, []⟩
    (.done ⟨tm2 71 [(1, (.ref [(vI (k)), (.slice 1 (p) .no), (.slice 6 (a) .no), (.slice 5 (b) .no), (.slice 4 (c) .no)]))], lm2 71 [], ⟨[], [], .none, 0⟩⟩))
   (.exI fun i =>
    (.call f_tree_lowPath [(.slice 1 (p) .no)] .none [] ⟨(.panic (.iface y_tree_wrong (vI (i)))), .none, []⟩
     (.out (.need true
      (.ret ⟨(.panic (.iface y_tree_wrong (vI (i)))), .none, []⟩))))))
  (.done ⟨tm2 71 [(1, (.ref [(vI (k)), (.slice 1 (p) .no), (.slice 6 (a) .no), (.slice 5 (b) .no), (.slice 4 (c) .no)]))], lm2 71 [], ⟨[], [], .none, 0⟩⟩))
 ((X_Sigs4 k p a b c q2x0).K)) := by kernel_rfl

@[irreducible] noncomputable def X_Sigs5 (k : Int) (p : List (List AV)) (a : List (List AV)) (b : List (List AV)) (c : List (List AV)) (q2x0 : Int) : KT := (X_Sigs4 k p a b c q2x0).K ⟨tm2 71 [(1, (.ref [(vI (k)), (.slice 1 (p) .no), (.slice 6 (a) .no), (.slice 5 (b) .no), (.slice 4 (c) .no)]))], lm2 71 [], ⟨[], [], .none, 0⟩⟩
theorem X_Sigs5_eq (k : Int) (p : List (List AV)) (a : List (List AV)) (b : List (List AV)) (c : List (List AV)) (q2x0 : Int) : (X_Sigs4 k p a b c q2x0).K ⟨tm2 71 [(1, (.ref [(vI (k)), (.slice 1 (p) .no), (.slice 6 (a) .no), (.slice 5 (b) .no), (.slice 4 (c) .no)]))], lm2 71 [], ⟨[], [], .none, 0⟩⟩ =
  (.alt
 (.call f_tree_each_api_Spec [(.slice 6 (a) .no), (.func (.func f_tree_spec) [] [])] .none [] ⟨(.ret (.tuple [])), .none, []⟩
  (.alt
   (.call f_tree_each_api_Sig [(.slice 5 (b) .no), (.func (.func f_tree_sig) [] [])] .none [] ⟨(.ret (.tuple [])), .none, []⟩
    (.alt
     (.call f_tree_each_api_Ty [(.slice 4 (c) .no), (.func (.func f_tree_ty) [] [])] .none [] ⟨(.ret (.tuple [])), .none, []⟩
      (.need true
       (.ret ⟨(.ret (.tuple [])), .none, []⟩)))
     (.exI fun i =>
      (.call f_tree_each_api_Ty [(.slice 4 (c) .no), (.func (.func f_tree_ty) [] [])] .none [] ⟨(.panic (.iface y_tree_wrong (vI (i)))), .none, []⟩
       (.need true
        (.ret ⟨(.panic (.iface y_tree_wrong (vI (i)))), .none, []⟩))))))
   (.exI fun i =>
    (.call f_tree_each_api_Sig [(.slice 5 (b) .no), (.func (.func f_tree_sig) [] [])] .none [] ⟨(.panic (.iface y_tree_wrong (vI (i)))), .none, []⟩
     (.need true
      (.ret ⟨(.panic (.iface y_tree_wrong (vI (i)))), .none, []⟩))))))
 (.exI fun i =>
  (.call f_tree_each_api_Spec [(.slice 6 (a) .no), (.func (.func f_tree_spec) [] [])] .none [] ⟨(.panic (.iface y_tree_wrong (vI (i)))), .none, []⟩
   (.need true
    (.ret ⟨(.panic (.iface y_tree_wrong (vI (i)))), .none, []⟩))))) := by kernel_rfl

@[irreducible] noncomputable def X_Spec (k : Int) (o : Int) (n : ByteArray) (a : List (List AV)) (b : List (List AV)) (c : List (List AV)) : KT := kt2 f_tree_spec [AV.agg [vI k, vI o, vS n, AV.slice 4 a Own.no, AV.slice 2 b Own.no, AV.slice 5 c Own.no]] []
theorem X_Spec_eq (k : Int) (o : Int) (n : ByteArray) (a : List (List AV)) (b : List (List AV)) (c : List (List AV)) : kt2 f_tree_spec [AV.agg [vI k, vI o, vS n, AV.slice 4 a Own.no, AV.slice 2 b Own.no, AV.slice 5 c Own.no]] [] =
  (.stage
 (.branch (decide (k ≥ 1))
  (.alt
   (.call f_tree_ask [(vB (decide (k ≤ 4)))] .none [] ⟨(.ret (.tuple [])), .none, []⟩
    (.done ⟨tm2 107 [(1, (.ref [(vI (k)), (vI (o)), (vS (n)), (.slice 4 (a) .no), (.slice 2 (b) .no), (.slice 5 (c) .no)]))], lm2 107 [], ⟨[], [], .none, 0⟩⟩))
   (.exI fun i =>
    (.call f_tree_ask [(vB (decide (k ≤ 4)))] .none [] ⟨(.panic (.iface y_tree_wrong (vI (i)))), .none, []⟩
     (.out (.need true
      (.ret ⟨(.panic (.iface y_tree_wrong (vI (i)))), .none, []⟩))))))
  (.alt
   (.call f_tree_ask [(vB false)] .none [] ⟨(.ret (.tuple [])), .none, []⟩
    (.done ⟨tm2 107 [(1, (.ref [(vI (k)), (vI (o)), (vS (n)), (.slice 4 (a) .no), (.slice 2 (b) .no), (.slice 5 (c) .no)]))], lm2 107 [], ⟨[], [], .none, 0⟩⟩))
   (.exI fun i =>
    (.call f_tree_ask [(vB false)] .none [] ⟨(.panic (.iface y_tree_wrong (vI (i)))), .none, []⟩
     (.out (.need true
      (.ret ⟨(.panic (.iface y_tree_wrong (vI (i)))), .none, []⟩)))))))
 ((X_Spec k o n a b c).K)) := by kernel_rfl

@[irreducible] noncomputable def X_Specs1 (k : Int) (o : Int) (n : ByteArray) (a : List (List AV)) (b : List (List AV)) (c : List (List AV)) : KT := (X_Spec k o n a b c).K ⟨tm2 107 [(1, (.ref [(vI (k)), (vI (o)), (vS (n)), (.slice 4 (a) .no), (.slice 2 (b) .no), (.slice 5 (c) .no)]))], lm2 107 [], ⟨[], [], .none, 0⟩⟩
theorem X_Specs1_eq (k : Int) (o : Int) (n : ByteArray) (a : List (List AV)) (b : List (List AV)) (c : List (List AV)) : (X_Spec k o n a b c).K ⟨tm2 107 [(1, (.ref [(vI (k)), (vI (o)), (vS (n)), (.slice 4 (a) .no), (.slice 2 (b) .no), (.slice 5 (c) .no)]))], lm2 107 [], ⟨[], [], .none, 0⟩⟩ =
  (.stage
 (.branch (k == 1)
  (.branch ((↑a.length : Int) == 1)
   (.branch ((↑b.length : Int) == 0)
    (.alt
     (.call f_tree_ask [(vB ((↑c.length : Int) == 0))] .none [] ⟨(.ret (.tuple [])), .none, []⟩
      (.done ⟨tm2 107 [(1, (.ref [(vI (k)), (vI (o)), (vS (n)), (.slice 4 (a) .no), (.slice 2 (b) .no), (.slice 5 (c) .no)]))], lm2 107 [], ⟨[], [], .none, 0⟩⟩))
     (.exI fun i =>
      (.call f_tree_ask [(vB ((↑c.length : Int) == 0))] .none [] ⟨(.panic (.iface y_tree_wrong (vI (i)))), .none, []⟩
       (.out (.need true
        (.ret ⟨(.panic (.iface y_tree_wrong (vI (i)))), .none, []⟩))))))
    (.alt
     (.call f_tree_ask [(vB false)] .none [] ⟨(.ret (.tuple [])), .none, []⟩
      (.done ⟨tm2 107 [(1, (.ref [(vI (k)), (vI (o)), (vS (n)), (.slice 4 (a) .no), (.slice 2 (b) .no), (.slice 5 (c) .no)]))], lm2 107 [], ⟨[], [], .none, 0⟩⟩))
     (.exI fun i =>
      (.call f_tree_ask [(vB false)] .none [] ⟨(.panic (.iface y_tree_wrong (vI (i)))), .none, []⟩
       (.out (.need true
        (.ret ⟨(.panic (.iface y_tree_wrong (vI (i)))), .none, []⟩)))))))
   (.alt
    (.call f_tree_ask [(vB false)] .none [] ⟨(.ret (.tuple [])), .none, []⟩
     (.done ⟨tm2 107 [(1, (.ref [(vI (k)), (vI (o)), (vS (n)), (.slice 4 (a) .no), (.slice 2 (b) .no), (.slice 5 (c) .no)]))], lm2 107 [], ⟨[], [], .none, 0⟩⟩))
    (.exI fun i =>
     (.call f_tree_ask [(vB false)] .none [] ⟨(.panic (.iface y_tree_wrong (vI (i)))), .none, []⟩
      (.out (.need true
       (.ret ⟨(.panic (.iface y_tree_wrong (vI (i)))), .none, []⟩)))))))
  (.branch (k == 2)
   (.branch (decide ((↑a.length : Int) ≤ 1))
    (.branch ((↑b.length : Int) == 0)
     (.alt
      (.call f_tree_ask [(vB ((↑c.length : Int) == 0))] .none [] ⟨(.ret (.tuple [])), .none, []⟩
       (.done ⟨tm2 107 [(1, (.ref [(vI (k)), (vI (o)), (vS (n)), (.slice 4 (a) .no), (.slice 2 (b) .no), (.slice 5 (c) .no)]))], lm2 107 [], ⟨[], [], .none, 0⟩⟩))
      (.exI fun i =>
       (.call f_tree_ask [(vB ((↑c.length : Int) == 0))] .none [] ⟨(.panic (.iface y_tree_wrong (vI (i)))), .none, []⟩
        (.out (.need true
         (.ret ⟨(.panic (.iface y_tree_wrong (vI (i)))), .none, []⟩))))))
     (.alt
      (.call f_tree_ask [(vB false)] .none [] ⟨(.ret (.tuple [])), .none, []⟩
       (.done ⟨tm2 107 [(1, (.ref [(vI (k)), (vI (o)), (vS (n)), (.slice 4 (a) .no), (.slice 2 (b) .no), (.slice 5 (c) .no)]))], lm2 107 [], ⟨[], [], .none, 0⟩⟩))
      (.exI fun i =>
       (.call f_tree_ask [(vB false)] .none [] ⟨(.panic (.iface y_tree_wrong (vI (i)))), .none, []⟩
        (.out (.need true
         (.ret ⟨(.panic (.iface y_tree_wrong (vI (i)))), .none, []⟩)))))))
    (.alt
     (.call f_tree_ask [(vB false)] .none [] ⟨(.ret (.tuple [])), .none, []⟩
      (.done ⟨tm2 107 [(1, (.ref [(vI (k)), (vI (o)), (vS (n)), (.slice 4 (a) .no), (.slice 2 (b) .no), (.slice 5 (c) .no)]))], lm2 107 [], ⟨[], [], .none, 0⟩⟩))
     (.exI fun i =>
      (.call f_tree_ask [(vB false)] .none [] ⟨(.panic (.iface y_tree_wrong (vI (i)))), .none, []⟩
       (.out (.need true
        (.ret ⟨(.panic (.iface y_tree_wrong (vI (i)))), .none, []⟩)))))))
   (.branch (k == 3)
    (.branch ((↑a.length : Int) == 0)
     (.branch (decide ((↑b.length : Int) ≥ 1))
      (.alt
       (.call f_tree_ask [(vB ((↑c.length : Int) == 0))] .none [] ⟨(.ret (.tuple [])), .none, []⟩
        (.done ⟨tm2 107 [(1, (.ref [(vI (k)), (vI (o)), (vS (n)), (.slice 4 (a) .no), (.slice 2 (b) .no), (.slice 5 (c) .no)]))], lm2 107 [], ⟨[], [], .none, 0⟩⟩))
       (.exI fun i =>
        (.call f_tree_ask [(vB ((↑c.length : Int) == 0))] .none [] ⟨(.panic (.iface y_tree_wrong (vI (i)))), .none, []⟩
         (.out (.need true
          (.ret ⟨(.panic (.iface y_tree_wrong (vI (i)))), .none, []⟩))))))
      (.alt
       (.call f_tree_ask [(vB false)] .none [] ⟨(.ret (.tuple [])), .none, []⟩
        (.done ⟨tm2 107 [(1, (.ref [(vI (k)), (vI (o)), (vS (n)), (.slice 4 (a) .no), (.slice 2 (b) .no), (.slice 5 (c) .no)]))], lm2 107 [], ⟨[], [], .none, 0⟩⟩))
       (.exI fun i =>
        (.call f_tree_ask [(vB false)] .none [] ⟨(.panic (.iface y_tree_wrong (vI (i)))), .none, []⟩
         (.out (.need true
          (.ret ⟨(.panic (.iface y_tree_wrong (vI (i)))), .none, []⟩)))))))
     (.alt
      (.call f_tree_ask [(vB false)] .none [] ⟨(.ret (.tuple [])), .none, []⟩
       (.done ⟨tm2 107 [(1, (.ref [(vI (k)), (vI (o)), (vS (n)), (.slice 4 (a) .no), (.slice 2 (b) .no), (.slice 5 (c) .no)]))], lm2 107 [], ⟨[], [], .none, 0⟩⟩))
      (.exI fun i =>
       (.call f_tree_ask [(vB false)] .none [] ⟨(.panic (.iface y_tree_wrong (vI (i)))), .none, []⟩
        (.out (.need true
         (.ret ⟨(.panic (.iface y_tree_wrong (vI (i)))), .none, []⟩)))))))
    (.branch (k == 4)
     (.branch ((↑a.length : Int) == 0)
      (.branch ((↑b.length : Int) == 0)
       (.alt
        (.call f_tree_ask [(vB ((↑c.length : Int) == 1))] .none [] ⟨(.ret (.tuple [])), .none, []⟩
         (.done ⟨tm2 107 [(1, (.ref [(vI (k)), (vI (o)), (vS (n)), (.slice 4 (a) .no), (.slice 2 (b) .no), (.slice 5 (c) .no)]))], lm2 107 [], ⟨[], [], .none, 0⟩⟩))
        (.exI fun i =>
         (.call f_tree_ask [(vB ((↑c.length : Int) == 1))] .none [] ⟨(.panic (.iface y_tree_wrong (vI (i)))), .none, []⟩
          (.out (.need true
           (.ret ⟨(.panic (.iface y_tree_wrong (vI (i)))), .none, []⟩))))))
       (.alt
        (.call f_tree_ask [(vB false)] .none [] ⟨(.ret (.tuple [])), .none, []⟩
         (.done ⟨tm2 107 [(1, (.ref [(vI (k)), (vI (o)), (vS (n)), (.slice 4 (a) .no), (.slice 2 (b) .no), (.slice 5 (c) .no)]))], lm2 107 [], ⟨[], [], .none, 0⟩⟩))
        (.exI fun i =>
         (.call f_tree_ask [(vB false)] .none [] ⟨(.panic (.iface y_tree_wrong (vI (i)))), .none, []⟩
          (.out (.need true
           (.ret ⟨(.panic (.iface y_tree_wrong (vI (i)))), .none, []⟩)))))))
      (.alt
       (.call f_tree_ask [(vB false)] .none [] ⟨(.ret (.tuple [])), .none, []⟩
        (.done ⟨tm2 107 [(1, (.ref [(vI (k)), (vI (o)), (vS (n)), (.slice 4 (a) .no), (.slice 2 (b) .no), (.slice 5 (c) .no)]))], lm2 107 [], ⟨[], [], .none, 0⟩⟩))
       (.exI fun i =>
        (.call f_tree_ask [(vB false)] .none [] ⟨(.panic (.iface y_tree_wrong (vI (i)))), .none, []⟩
         (.out (.need true
          (.ret ⟨(.panic (.iface y_tree_wrong (vI (i)))), .none, []⟩)))))))
     (.done ⟨tm2 107 [(1, (.ref [(vI (k)), (vI (o)), (vS (n)), (.slice 4 (a) .no), (.slice 2 (b) .no), (.slice 5 (c) .no)]))], lm2 107 [], ⟨[], [], .none, 0⟩⟩)))))
 ((X_Specs1 k o n a b c).K)) := by kernel_rfl

@[irreducible] noncomputable def X_Specs2 (k : Int) (o : Int) (n : ByteArray) (a : List (List AV)) (b : List (List AV)) (c : List (List AV)) : KT := (X_Specs1 k o n a b c).K ⟨tm2 107 [(1, (.ref [(vI (k)), (vI (o)), (vS (n)), (.slice 4 (a) .no), (.slice 2 (b) .no), (.slice 5 (c) .no)]))], lm2 107 [], ⟨[], [], .none, 0⟩⟩
theorem X_Specs2_eq (k : Int) (o : Int) (n : ByteArray) (a : List (List AV)) (b : List (List AV)) (c : List (List AV)) : (X_Specs1 k o n a b c).K ⟨tm2 107 [(1, (.ref [(vI (k)), (vI (o)), (vS (n)), (.slice 4 (a) .no), (.slice 2 (b) .no), (.slice 5 (c) .no)]))], lm2 107 [], ⟨[], [], .none, 0⟩⟩ =
  (.stage
 (.branch (k == 4)
  (.alt
   (.call f_tree_highName [(vS (n))] .none [] ⟨(.ret (.tuple [])), .none, []⟩
    (.done ⟨tm2 107 [(1, (.ref [(vI (k)), (vI (o)), (vS (n)), (.slice 4 (a) .no), (.slice 2 (b) .no), (.slice 5 (c) .no)]))], lm2 107 [], ⟨[], [], .none, 0⟩⟩))
   (.exI fun i =>
    (.call f_tree_highName [(vS (n))] .none [] ⟨(.panic (.iface y_tree_wrong (vI (i)))), .none, []⟩
     (.out (.need true
      (.ret ⟨(.panic (.iface y_tree_wrong (vI (i)))), .none, []⟩))))))
  (.alt
   (.call f_tree_lowName [(vS (n))] .none [] ⟨(.ret (.tuple [])), .none, []⟩
    (.done ⟨tm2 107 [(1, (.ref [(vI (k)), (vI (o)), (vS (n)), (.slice 4 (a) .no), (.slice 2 (b) .no), (.slice 5 (c) .no)]))], lm2 107 [], ⟨[], [], .none, 0⟩⟩))
   (.exI fun i =>
    (.call f_tree_lowName [(vS (n))] .none [] ⟨(.panic (.iface y_tree_wrong (vI (i)))), .none, []⟩
     (.out (.need true
      (.ret ⟨(.panic (.iface y_tree_wrong (vI (i)))), .none, []⟩)))))))
 ((X_Specs2 k o n a b c).K)) := by kernel_rfl

@[irreducible] noncomputable def X_Specs3 (k : Int) (o : Int) (n : ByteArray) (a : List (List AV)) (b : List (List AV)) (c : List (List AV)) : KT := (X_Specs2 k o n a b c).K ⟨tm2 107 [(1, (.ref [(vI (k)), (vI (o)), (vS (n)), (.slice 4 (a) .no), (.slice 2 (b) .no), (.slice 5 (c) .no)]))], lm2 107 [], ⟨[], [], .none, 0⟩⟩
theorem X_Specs3_eq (k : Int) (o : Int) (n : ByteArray) (a : List (List AV)) (b : List (List AV)) (c : List (List AV)) : (X_Specs2 k o n a b c).K ⟨tm2 107 [(1, (.ref [(vI (k)), (vI (o)), (vS (n)), (.slice 4 (a) .no), (.slice 2 (b) .no), (.slice 5 (c) .no)]))], lm2 107 [], ⟨[], [], .none, 0⟩⟩ =
  (.alt
 (.call f_tree_each_api_Ty [(.slice 4 (a) .no), (.func (.func f_tree_ty) [] [])] .none [] ⟨(.ret (.tuple [])), .none, []⟩
  (.alt
   (.call f_tree_each_api_Con [(.slice 2 (b) .no), (.func (.func f_tree_con) [] [])] .none [] ⟨(.ret (.tuple [])), .none, []⟩
    (.alt
     (.call f_tree_each_api_Sig [(.slice 5 (c) .no), (.func (.func f_tree_sig) [] [])] .none [] ⟨(.ret (.tuple [])), .none, []⟩
      (.need true
       (.ret ⟨(.ret (.tuple [])), .none, []⟩)))
     (.exI fun i =>
      (.call f_tree_each_api_Sig [(.slice 5 (c) .no), (.func (.func f_tree_sig) [] [])] .none [] ⟨(.panic (.iface y_tree_wrong (vI (i)))), .none, []⟩
       (.need true
        (.ret ⟨(.panic (.iface y_tree_wrong (vI (i)))), .none, []⟩))))))
   (.exI fun i =>
    (.call f_tree_each_api_Con [(.slice 2 (b) .no), (.func (.func f_tree_con) [] [])] .none [] ⟨(.panic (.iface y_tree_wrong (vI (i)))), .none, []⟩
     (.need true
      (.ret ⟨(.panic (.iface y_tree_wrong (vI (i)))), .none, []⟩))))))
 (.exI fun i =>
  (.call f_tree_each_api_Ty [(.slice 4 (a) .no), (.func (.func f_tree_ty) [] [])] .none [] ⟨(.panic (.iface y_tree_wrong (vI (i)))), .none, []⟩
   (.need true
    (.ret ⟨(.panic (.iface y_tree_wrong (vI (i)))), .none, []⟩))))) := by kernel_rfl

@[irreducible] noncomputable def X_exp1 (k : Int) (o : Int) (n : ByteArray) (p : List (List AV)) (a : List (List AV)) (b : List (List AV)) (c : List (List AV)) (d : List (List AV)) (e : List (List AV)) : KT := kt2 f_tree_exp_1 [AV.agg [vI k, vI o, vS n, AV.slice 1 p Own.no, AV.slice 4 a Own.no, AV.slice 8 b Own.no, AV.slice 2 c Own.no, AV.slice 5 d Own.no, AV.slice 5 e Own.no]] []
theorem X_exp1_eq (k : Int) (o : Int) (n : ByteArray) (p : List (List AV)) (a : List (List AV)) (b : List (List AV)) (c : List (List AV)) (d : List (List AV)) (e : List (List AV)) : kt2 f_tree_exp_1 [AV.agg [vI k, vI o, vS n, AV.slice 1 p Own.no, AV.slice 4 a Own.no, AV.slice 8 b Own.no, AV.slice 2 c Own.no, AV.slice 5 d Own.no, AV.slice 5 e Own.no]] [] =
  (.branch (k == 1)
 (.alt
  (.call f_tree_ask [(vB true)] .none [] ⟨(.ret (.tuple [])), .none, []⟩
   (.need true
    (.ret ⟨(.ret (.tuple [])), .none, []⟩)))
  (.exI fun i =>
   (.call f_tree_ask [(vB true)] .none [] ⟨(.panic (.iface y_tree_wrong (vI (i)))), .none, []⟩
    (.need true
     (.ret ⟨(.panic (.iface y_tree_wrong (vI (i)))), .none, []⟩)))))
 (.alt
  (.call f_tree_ask [(vB (k == 2))] .none [] ⟨(.ret (.tuple [])), .none, []⟩
   (.need true
    (.ret ⟨(.ret (.tuple [])), .none, []⟩)))
  (.exI fun i =>
   (.call f_tree_ask [(vB (k == 2))] .none [] ⟨(.panic (.iface y_tree_wrong (vI (i)))), .none, []⟩
    (.need true
     (.ret ⟨(.panic (.iface y_tree_wrong (vI (i)))), .none, []⟩)))))) := by kernel_rfl

@[irreducible] noncomputable def X_eachTy_tyR (l : List (List AV)) (i : Nat) : KT := KT.round Pg cfg0 rs0 kc2 (X_eachTy_ty l) { tmps := tm2 16 [(1, AV.func (Fn.func f_tree_ty) [] []), (6, AV.slice 4 l Own.no), (7, vI (↑l.length : Int)), (8, vI (↑i : Int))], lh := lm2 16 [], g := { H := [], defers := [], rm := RM.none, base := 0 } }
theorem X_eachTy_tyR_eq (l : List (List AV)) (i : Nat) : KT.round Pg cfg0 rs0 kc2 (X_eachTy_ty l) { tmps := tm2 16 [(1, AV.func (Fn.func f_tree_ty) [] []), (6, AV.slice 4 l Own.no), (7, vI (↑l.length : Int)), (8, vI (↑i : Int))], lh := lm2 16 [], g := { H := [], defers := [], rm := RM.none, base := 0 } } =
  (.branch (decide ((↑i : Int) < (↑l.length : Int)))
 (.exI fun i1 =>
  (.exS fun s =>
   (.exR fun l1 =>
    (.exR fun l2 =>
     (.row (l) ((↑i : Int)) [(vI (i1)), (vS (s)), (.slice 1 (l1) .no), (.slice 4 (l2) .no)]
      (.alt
       (.call f_tree_ty [(.agg [(vI (i1)), (vS (s)), (.slice 1 (l1) .no), (.slice 4 (l2) .no)])] .none [] ⟨(.ret (.tuple [])), .none, []⟩
        (.done ⟨tm2 16 [(1, (.func (.func f_tree_ty) [] [])), (6, (.slice 4 (l) .no)), (7, (vI ((↑l.length : Int)))), (8, (vI (IntKind.i64.wrap ((↑i : Int) + 1))))], lm2 16 [], ⟨[], [], .none, 0⟩⟩))
       (.exI fun i2 =>
        (.call f_tree_ty [(.agg [(vI (i1)), (vS (s)), (.slice 1 (l1) .no), (.slice 4 (l2) .no)])] .none [] ⟨(.panic (.iface y_tree_wrong (vI (i2)))), .none, []⟩
         (.out (.need true
          (.ret ⟨(.panic (.iface y_tree_wrong (vI (i2)))), .none, []⟩)))))))))))
 (.out (.need true
  (.ret ⟨(.ret (.tuple [])), .none, []⟩)))) := by kernel_rfl

@[irreducible] noncomputable def X_eachPat_patR (l : List (List AV)) (i : Nat) : KT := KT.round Pg cfg0 rs0 kc2 (X_eachPat_pat l) { tmps := tm2 16 [(1, AV.func (Fn.func f_tree_pat) [] []), (6, AV.slice 5 l Own.no), (7, vI (↑l.length : Int)), (8, vI (↑i : Int))], lh := lm2 16 [], g := { H := [], defers := [], rm := RM.none, base := 0 } }
theorem X_eachPat_patR_eq (l : List (List AV)) (i : Nat) : KT.round Pg cfg0 rs0 kc2 (X_eachPat_pat l) { tmps := tm2 16 [(1, AV.func (Fn.func f_tree_pat) [] []), (6, AV.slice 5 l Own.no), (7, vI (↑l.length : Int)), (8, vI (↑i : Int))], lh := lm2 16 [], g := { H := [], defers := [], rm := RM.none, base := 0 } } =
  (.branch (decide ((↑i : Int) < (↑l.length : Int)))
 (.exI fun i1 =>
  (.exS fun s =>
   (.exR fun l1 =>
    (.exI fun i2 =>
     (.exR fun l2 =>
      (.row (l) ((↑i : Int)) [(vI (i1)), (vS (s)), (.slice 1 (l1) .no), (vI (i2)), (.slice 5 (l2) .no)]
       (.alt
        (.call f_tree_pat [(.agg [(vI (i1)), (vS (s)), (.slice 1 (l1) .no), (vI (i2)), (.slice 5 (l2) .no)])] .none [] ⟨(.ret (.tuple [])), .none, []⟩
         (.done ⟨tm2 16 [(1, (.func (.func f_tree_pat) [] [])), (6, (.slice 5 (l) .no)), (7, (vI ((↑l.length : Int)))), (8, (vI (IntKind.i64.wrap ((↑i : Int) + 1))))], lm2 16 [], ⟨[], [], .none, 0⟩⟩))
        (.exI fun i3 =>
         (.call f_tree_pat [(.agg [(vI (i1)), (vS (s)), (.slice 1 (l1) .no), (vI (i2)), (.slice 5 (l2) .no)])] .none [] ⟨(.panic (.iface y_tree_wrong (vI (i3)))), .none, []⟩
          (.out (.need true
           (.ret ⟨(.panic (.iface y_tree_wrong (vI (i3)))), .none, []⟩))))))))))))
 (.out (.need true
  (.ret ⟨(.ret (.tuple [])), .none, []⟩)))) := by kernel_rfl

@[irreducible] noncomputable def X_eachExp_expR (l : List (List AV)) (i : Nat) : KT := KT.round Pg cfg0 rs0 kc2 (X_eachExp_exp l) { tmps := tm2 16 [(1, AV.func (Fn.func f_tree_exp) [] []), (6, AV.slice 8 l Own.no), (7, vI (↑l.length : Int)), (8, vI (↑i : Int))], lh := lm2 16 [], g := { H := [], defers := [], rm := RM.none, base := 0 } }
theorem X_eachExp_expR_eq (l : List (List AV)) (i : Nat) : KT.round Pg cfg0 rs0 kc2 (X_eachExp_exp l) { tmps := tm2 16 [(1, AV.func (Fn.func f_tree_exp) [] []), (6, AV.slice 8 l Own.no), (7, vI (↑l.length : Int)), (8, vI (↑i : Int))], lh := lm2 16 [], g := { H := [], defers := [], rm := RM.none, base := 0 } } =
  (.branch (decide ((↑i : Int) < (↑l.length : Int)))
 (.exI fun i1 =>
  (.exI fun i2 =>
   (.exI fun i3 =>
    (.exR fun l1 =>
     (.exR fun l2 =>
      (.exR fun l3 =>
       (.exR fun l4 =>
        (.exR fun l5 =>
         (.row (l) ((↑i : Int)) [(vI (i1)), (vI (i2)), (vI (i3)), (.slice 1 (l1) .no), (.slice 5 (l2) .no), (.slice 8 (l3) .no), (.slice 9 (l4) .no), (.slice 4 (l5) .no)]
          (.alt
           (.call f_tree_exp [(.agg [(vI (i1)), (vI (i2)), (vI (i3)), (.slice 1 (l1) .no), (.slice 5 (l2) .no), (.slice 8 (l3) .no), (.slice 9 (l4) .no), (.slice 4 (l5) .no)])] .none [] ⟨(.ret (.tuple [])), .none, []⟩
            (.done ⟨tm2 16 [(1, (.func (.func f_tree_exp) [] [])), (6, (.slice 8 (l) .no)), (7, (vI ((↑l.length : Int)))), (8, (vI (IntKind.i64.wrap ((↑i : Int) + 1))))], lm2 16 [], ⟨[], [], .none, 0⟩⟩))
           (.exI fun i4 =>
            (.call f_tree_exp [(.agg [(vI (i1)), (vI (i2)), (vI (i3)), (.slice 1 (l1) .no), (.slice 5 (l2) .no), (.slice 8 (l3) .no), (.slice 9 (l4) .no), (.slice 4 (l5) .no)])] .none [] ⟨(.panic (.iface y_tree_wrong (vI (i4)))), .none, []⟩
             (.out (.need true
              (.ret ⟨(.panic (.iface y_tree_wrong (vI (i4)))), .none, []⟩)))))))))))))))
 (.out (.need true
  (.ret ⟨(.ret (.tuple [])), .none, []⟩)))) := by kernel_rfl

@[irreducible] noncomputable def X_eachCon_conR (l : List (List AV)) (i : Nat) : KT := KT.round Pg cfg0 rs0 kc2 (X_eachCon_con l) { tmps := tm2 16 [(1, AV.func (Fn.func f_tree_con) [] []), (6, AV.slice 2 l Own.no), (7, vI (↑l.length : Int)), (8, vI (↑i : Int))], lh := lm2 16 [], g := { H := [], defers := [], rm := RM.none, base := 0 } }
theorem X_eachCon_conR_eq (l : List (List AV)) (i : Nat) : KT.round Pg cfg0 rs0 kc2 (X_eachCon_con l) { tmps := tm2 16 [(1, AV.func (Fn.func f_tree_con) [] []), (6, AV.slice 2 l Own.no), (7, vI (↑l.length : Int)), (8, vI (↑i : Int))], lh := lm2 16 [], g := { H := [], defers := [], rm := RM.none, base := 0 } } =
  (.branch (decide ((↑i : Int) < (↑l.length : Int)))
 (.exS fun s =>
  (.exR fun l1 =>
   (.row (l) ((↑i : Int)) [(vS (s)), (.slice 4 (l1) .no)]
    (.alt
     (.call f_tree_con [(.agg [(vS (s)), (.slice 4 (l1) .no)])] .none [] ⟨(.ret (.tuple [])), .none, []⟩
      (.done ⟨tm2 16 [(1, (.func (.func f_tree_con) [] [])), (6, (.slice 2 (l) .no)), (7, (vI ((↑l.length : Int)))), (8, (vI (IntKind.i64.wrap ((↑i : Int) + 1))))], lm2 16 [], ⟨[], [], .none, 0⟩⟩))
     (.exI fun i1 =>
      (.call f_tree_con [(.agg [(vS (s)), (.slice 4 (l1) .no)])] .none [] ⟨(.panic (.iface y_tree_wrong (vI (i1)))), .none, []⟩
       (.out (.need true
        (.ret ⟨(.panic (.iface y_tree_wrong (vI (i1)))), .none, []⟩)))))))))
 (.out (.need true
  (.ret ⟨(.ret (.tuple [])), .none, []⟩)))) := by kernel_rfl

@[irreducible] noncomputable def X_eachDec_decR (l : List (List AV)) (i : Nat) : KT := KT.round Pg cfg0 rs0 kc2 (X_eachDec_dec l) { tmps := tm2 16 [(1, AV.func (Fn.func f_tree_dec) [] []), (6, AV.slice 9 l Own.no), (7, vI (↑l.length : Int)), (8, vI (↑i : Int))], lh := lm2 16 [], g := { H := [], defers := [], rm := RM.none, base := 0 } }
theorem X_eachDec_decR_eq (l : List (List AV)) (i : Nat) : KT.round Pg cfg0 rs0 kc2 (X_eachDec_dec l) { tmps := tm2 16 [(1, AV.func (Fn.func f_tree_dec) [] []), (6, AV.slice 9 l Own.no), (7, vI (↑l.length : Int)), (8, vI (↑i : Int))], lh := lm2 16 [], g := { H := [], defers := [], rm := RM.none, base := 0 } } =
  (.branch (decide ((↑i : Int) < (↑l.length : Int)))
 (.exI fun i1 =>
  (.exI fun i2 =>
   (.exS fun s =>
    (.exR fun l1 =>
     (.exR fun l2 =>
      (.exR fun l3 =>
       (.exR fun l4 =>
        (.exR fun l5 =>
         (.exR fun l6 =>
          (.row (l) ((↑i : Int)) [(vI (i1)), (vI (i2)), (vS (s)), (.slice 1 (l1) .no), (.slice 4 (l2) .no), (.slice 8 (l3) .no), (.slice 2 (l4) .no), (.slice 5 (l5) .no), (.slice 5 (l6) .no)]
           (.alt
            (.call f_tree_dec [(.agg [(vI (i1)), (vI (i2)), (vS (s)), (.slice 1 (l1) .no), (.slice 4 (l2) .no), (.slice 8 (l3) .no), (.slice 2 (l4) .no), (.slice 5 (l5) .no), (.slice 5 (l6) .no)])] .none [] ⟨(.ret (.tuple [])), .none, []⟩
             (.done ⟨tm2 16 [(1, (.func (.func f_tree_dec) [] [])), (6, (.slice 9 (l) .no)), (7, (vI ((↑l.length : Int)))), (8, (vI (IntKind.i64.wrap ((↑i : Int) + 1))))], lm2 16 [], ⟨[], [], .none, 0⟩⟩))
            (.exI fun i3 =>
             (.call f_tree_dec [(.agg [(vI (i1)), (vI (i2)), (vS (s)), (.slice 1 (l1) .no), (.slice 4 (l2) .no), (.slice 8 (l3) .no), (.slice 2 (l4) .no), (.slice 5 (l5) .no), (.slice 5 (l6) .no)])] .none [] ⟨(.panic (.iface y_tree_wrong (vI (i3)))), .none, []⟩
              (.out (.need true
               (.ret ⟨(.panic (.iface y_tree_wrong (vI (i3)))), .none, []⟩))))))))))))))))
 (.out (.need true
  (.ret ⟨(.ret (.tuple [])), .none, []⟩)))) := by kernel_rfl

@[irreducible] noncomputable def X_eachDec_exp_1R (l : List (List AV)) (i : Nat) : KT := KT.round Pg cfg0 rs0 kc2 (X_eachDec_exp_1 l) { tmps := tm2 16 [(1, AV.func (Fn.func f_tree_exp_1) [] []), (6, AV.slice 9 l Own.no), (7, vI (↑l.length : Int)), (8, vI (↑i : Int))], lh := lm2 16 [], g := { H := [], defers := [], rm := RM.none, base := 0 } }
theorem X_eachDec_exp_1R_eq (l : List (List AV)) (i : Nat) : KT.round Pg cfg0 rs0 kc2 (X_eachDec_exp_1 l) { tmps := tm2 16 [(1, AV.func (Fn.func f_tree_exp_1) [] []), (6, AV.slice 9 l Own.no), (7, vI (↑l.length : Int)), (8, vI (↑i : Int))], lh := lm2 16 [], g := { H := [], defers := [], rm := RM.none, base := 0 } } =
  (.branch (decide ((↑i : Int) < (↑l.length : Int)))
 (.exI fun i1 =>
  (.exI fun i2 =>
   (.exS fun s =>
    (.exR fun l1 =>
     (.exR fun l2 =>
      (.exR fun l3 =>
       (.exR fun l4 =>
        (.exR fun l5 =>
         (.exR fun l6 =>
          (.row (l) ((↑i : Int)) [(vI (i1)), (vI (i2)), (vS (s)), (.slice 1 (l1) .no), (.slice 4 (l2) .no), (.slice 8 (l3) .no), (.slice 2 (l4) .no), (.slice 5 (l5) .no), (.slice 5 (l6) .no)]
           (.alt
            (.call f_tree_exp_1 [(.agg [(vI (i1)), (vI (i2)), (vS (s)), (.slice 1 (l1) .no), (.slice 4 (l2) .no), (.slice 8 (l3) .no), (.slice 2 (l4) .no), (.slice 5 (l5) .no), (.slice 5 (l6) .no)])] .none [] ⟨(.ret (.tuple [])), .none, []⟩
             (.done ⟨tm2 16 [(1, (.func (.func f_tree_exp_1) [] [])), (6, (.slice 9 (l) .no)), (7, (vI ((↑l.length : Int)))), (8, (vI (IntKind.i64.wrap ((↑i : Int) + 1))))], lm2 16 [], ⟨[], [], .none, 0⟩⟩))
            (.exI fun i3 =>
             (.call f_tree_exp_1 [(.agg [(vI (i1)), (vI (i2)), (vS (s)), (.slice 1 (l1) .no), (.slice 4 (l2) .no), (.slice 8 (l3) .no), (.slice 2 (l4) .no), (.slice 5 (l5) .no), (.slice 5 (l6) .no)])] .none [] ⟨(.panic (.iface y_tree_wrong (vI (i3)))), .none, []⟩
              (.out (.need true
               (.ret ⟨(.panic (.iface y_tree_wrong (vI (i3)))), .none, []⟩))))))))))))))))
 (.out (.need true
  (.ret ⟨(.ret (.tuple [])), .none, []⟩)))) := by kernel_rfl

@[irreducible] noncomputable def X_eachMod_modR (l : List (List AV)) (i : Nat) : KT := KT.round Pg cfg0 rs0 kc2 (X_eachMod_mod l) { tmps := tm2 16 [(1, AV.func (Fn.func f_tree_mod) [] []), (6, AV.slice 5 l Own.no), (7, vI (↑l.length : Int)), (8, vI (↑i : Int))], lh := lm2 16 [], g := { H := [], defers := [], rm := RM.none, base := 0 } }
theorem X_eachMod_modR_eq (l : List (List AV)) (i : Nat) : KT.round Pg cfg0 rs0 kc2 (X_eachMod_mod l) { tmps := tm2 16 [(1, AV.func (Fn.func f_tree_mod) [] []), (6, AV.slice 5 l Own.no), (7, vI (↑l.length : Int)), (8, vI (↑i : Int))], lh := lm2 16 [], g := { H := [], defers := [], rm := RM.none, base := 0 } } =
  (.branch (decide ((↑i : Int) < (↑l.length : Int)))
 (.exI fun i1 =>
  (.exR fun l1 =>
   (.exR fun l2 =>
    (.exR fun l3 =>
     (.exR fun l4 =>
      (.row (l) ((↑i : Int)) [(vI (i1)), (.slice 1 (l1) .no), (.slice 9 (l2) .no), (.slice 5 (l3) .no), (.slice 5 (l4) .no)]
       (.alt
        (.call f_tree_mod [(.agg [(vI (i1)), (.slice 1 (l1) .no), (.slice 9 (l2) .no), (.slice 5 (l3) .no), (.slice 5 (l4) .no)])] .none [] ⟨(.ret (.tuple [])), .none, []⟩
         (.done ⟨tm2 16 [(1, (.func (.func f_tree_mod) [] [])), (6, (.slice 5 (l) .no)), (7, (vI ((↑l.length : Int)))), (8, (vI (IntKind.i64.wrap ((↑i : Int) + 1))))], lm2 16 [], ⟨[], [], .none, 0⟩⟩))
        (.exI fun i2 =>
         (.call f_tree_mod [(.agg [(vI (i1)), (.slice 1 (l1) .no), (.slice 9 (l2) .no), (.slice 5 (l3) .no), (.slice 5 (l4) .no)])] .none [] ⟨(.panic (.iface y_tree_wrong (vI (i2)))), .none, []⟩
          (.out (.need true
           (.ret ⟨(.panic (.iface y_tree_wrong (vI (i2)))), .none, []⟩))))))))))))
 (.out (.need true
  (.ret ⟨(.ret (.tuple [])), .none, []⟩)))) := by kernel_rfl

@[irreducible] noncomputable def X_eachSig_sigR (l : List (List AV)) (i : Nat) : KT := KT.round Pg cfg0 rs0 kc2 (X_eachSig_sig l) { tmps := tm2 16 [(1, AV.func (Fn.func f_tree_sig) [] []), (6, AV.slice 5 l Own.no), (7, vI (↑l.length : Int)), (8, vI (↑i : Int))], lh := lm2 16 [], g := { H := [], defers := [], rm := RM.none, base := 0 } }
theorem X_eachSig_sigR_eq (l : List (List AV)) (i : Nat) : KT.round Pg cfg0 rs0 kc2 (X_eachSig_sig l) { tmps := tm2 16 [(1, AV.func (Fn.func f_tree_sig) [] []), (6, AV.slice 5 l Own.no), (7, vI (↑l.length : Int)), (8, vI (↑i : Int))], lh := lm2 16 [], g := { H := [], defers := [], rm := RM.none, base := 0 } } =
  (.branch (decide ((↑i : Int) < (↑l.length : Int)))
 (.exI fun i1 =>
  (.exR fun l1 =>
   (.exR fun l2 =>
    (.exR fun l3 =>
     (.exR fun l4 =>
      (.row (l) ((↑i : Int)) [(vI (i1)), (.slice 1 (l1) .no), (.slice 6 (l2) .no), (.slice 5 (l3) .no), (.slice 4 (l4) .no)]
       (.alt
        (.call f_tree_sig [(.agg [(vI (i1)), (.slice 1 (l1) .no), (.slice 6 (l2) .no), (.slice 5 (l3) .no), (.slice 4 (l4) .no)])] .none [] ⟨(.ret (.tuple [])), .none, []⟩
         (.done ⟨tm2 16 [(1, (.func (.func f_tree_sig) [] [])), (6, (.slice 5 (l) .no)), (7, (vI ((↑l.length : Int)))), (8, (vI (IntKind.i64.wrap ((↑i : Int) + 1))))], lm2 16 [], ⟨[], [], .none, 0⟩⟩))
        (.exI fun i2 =>
         (.call f_tree_sig [(.agg [(vI (i1)), (.slice 1 (l1) .no), (.slice 6 (l2) .no), (.slice 5 (l3) .no), (.slice 4 (l4) .no)])] .none [] ⟨(.panic (.iface y_tree_wrong (vI (i2)))), .none, []⟩
          (.out (.need true
           (.ret ⟨(.panic (.iface y_tree_wrong (vI (i2)))), .none, []⟩))))))))))))
 (.out (.need true
  (.ret ⟨(.ret (.tuple [])), .none, []⟩)))) := by kernel_rfl

@[irreducible] noncomputable def X_eachSpec_specR (l : List (List AV)) (i : Nat) : KT := KT.round Pg cfg0 rs0 kc2 (X_eachSpec_spec l) { tmps := tm2 16 [(1, AV.func (Fn.func f_tree_spec) [] []), (6, AV.slice 6 l Own.no), (7, vI (↑l.length : Int)), (8, vI (↑i : Int))], lh := lm2 16 [], g := { H := [], defers := [], rm := RM.none, base := 0 } }
theorem X_eachSpec_specR_eq (l : List (List AV)) (i : Nat) : KT.round Pg cfg0 rs0 kc2 (X_eachSpec_spec l) { tmps := tm2 16 [(1, AV.func (Fn.func f_tree_spec) [] []), (6, AV.slice 6 l Own.no), (7, vI (↑l.length : Int)), (8, vI (↑i : Int))], lh := lm2 16 [], g := { H := [], defers := [], rm := RM.none, base := 0 } } =
  (.branch (decide ((↑i : Int) < (↑l.length : Int)))
 (.exI fun i1 =>
  (.exI fun i2 =>
   (.exS fun s =>
    (.exR fun l1 =>
     (.exR fun l2 =>
      (.exR fun l3 =>
       (.row (l) ((↑i : Int)) [(vI (i1)), (vI (i2)), (vS (s)), (.slice 4 (l1) .no), (.slice 2 (l2) .no), (.slice 5 (l3) .no)]
        (.alt
         (.call f_tree_spec [(.agg [(vI (i1)), (vI (i2)), (vS (s)), (.slice 4 (l1) .no), (.slice 2 (l2) .no), (.slice 5 (l3) .no)])] .none [] ⟨(.ret (.tuple [])), .none, []⟩
          (.done ⟨tm2 16 [(1, (.func (.func f_tree_spec) [] [])), (6, (.slice 6 (l) .no)), (7, (vI ((↑l.length : Int)))), (8, (vI (IntKind.i64.wrap ((↑i : Int) + 1))))], lm2 16 [], ⟨[], [], .none, 0⟩⟩))
         (.exI fun i3 =>
          (.call f_tree_spec [(.agg [(vI (i1)), (vI (i2)), (vS (s)), (.slice 4 (l1) .no), (.slice 2 (l2) .no), (.slice 5 (l3) .no)])] .none [] ⟨(.panic (.iface y_tree_wrong (vI (i3)))), .none, []⟩
           (.out (.need true
            (.ret ⟨(.panic (.iface y_tree_wrong (vI (i3)))), .none, []⟩)))))))))))))
 (.out (.need true
  (.ret ⟨(.ret (.tuple [])), .none, []⟩)))) := by kernel_rfl

@[irreducible] noncomputable def X_eachstring_lowNameR (l : List (List AV)) (i : Nat) : KT := KT.round Pg cfg0 rs0 kc2 (X_eachstring_lowName l) { tmps := tm2 16 [(1, AV.func (Fn.func f_tree_lowName) [] []), (6, AV.slice 1 l Own.no), (7, vI (↑l.length : Int)), (8, vI (↑i : Int))], lh := lm2 16 [], g := { H := [], defers := [], rm := RM.none, base := 0 } }
theorem X_eachstring_lowNameR_eq (l : List (List AV)) (i : Nat) : KT.round Pg cfg0 rs0 kc2 (X_eachstring_lowName l) { tmps := tm2 16 [(1, AV.func (Fn.func f_tree_lowName) [] []), (6, AV.slice 1 l Own.no), (7, vI (↑l.length : Int)), (8, vI (↑i : Int))], lh := lm2 16 [], g := { H := [], defers := [], rm := RM.none, base := 0 } } =
  (.branch (decide ((↑i : Int) < (↑l.length : Int)))
 (.exS fun s =>
  (.row (l) ((↑i : Int)) [(vS (s))]
   (.alt
    (.call f_tree_lowName [(vS (s))] .none [] ⟨(.ret (.tuple [])), .none, []⟩
     (.done ⟨tm2 16 [(1, (.func (.func f_tree_lowName) [] [])), (6, (.slice 1 (l) .no)), (7, (vI ((↑l.length : Int)))), (8, (vI (IntKind.i64.wrap ((↑i : Int) + 1))))], lm2 16 [], ⟨[], [], .none, 0⟩⟩))
    (.exI fun i1 =>
     (.call f_tree_lowName [(vS (s))] .none [] ⟨(.panic (.iface y_tree_wrong (vI (i1)))), .none, []⟩
      (.out (.need true
       (.ret ⟨(.panic (.iface y_tree_wrong (vI (i1)))), .none, []⟩))))))))
 (.out (.need true
  (.ret ⟨(.ret (.tuple [])), .none, []⟩)))) := by kernel_rfl

@[irreducible] noncomputable def X_eachstring_highNameR (l : List (List AV)) (i : Nat) : KT := KT.round Pg cfg0 rs0 kc2 (X_eachstring_highName l) { tmps := tm2 16 [(1, AV.func (Fn.func f_tree_highName) [] []), (6, AV.slice 1 l Own.no), (7, vI (↑l.length : Int)), (8, vI (↑i : Int))], lh := lm2 16 [], g := { H := [], defers := [], rm := RM.none, base := 0 } }
theorem X_eachstring_highNameR_eq (l : List (List AV)) (i : Nat) : KT.round Pg cfg0 rs0 kc2 (X_eachstring_highName l) { tmps := tm2 16 [(1, AV.func (Fn.func f_tree_highName) [] []), (6, AV.slice 1 l Own.no), (7, vI (↑l.length : Int)), (8, vI (↑i : Int))], lh := lm2 16 [], g := { H := [], defers := [], rm := RM.none, base := 0 } } =
  (.branch (decide ((↑i : Int) < (↑l.length : Int)))
 (.exS fun s =>
  (.row (l) ((↑i : Int)) [(vS (s))]
   (.alt
    (.call f_tree_highName [(vS (s))] .none [] ⟨(.ret (.tuple [])), .none, []⟩
     (.done ⟨tm2 16 [(1, (.func (.func f_tree_highName) [] [])), (6, (.slice 1 (l) .no)), (7, (vI ((↑l.length : Int)))), (8, (vI (IntKind.i64.wrap ((↑i : Int) + 1))))], lm2 16 [], ⟨[], [], .none, 0⟩⟩))
    (.exI fun i1 =>
     (.call f_tree_highName [(vS (s))] .none [] ⟨(.panic (.iface y_tree_wrong (vI (i1)))), .none, []⟩
      (.out (.need true
       (.ret ⟨(.panic (.iface y_tree_wrong (vI (i1)))), .none, []⟩))))))))
 (.out (.need true
  (.ret ⟨(.ret (.tuple [])), .none, []⟩)))) := by kernel_rfl

@[irreducible] noncomputable def X_RightR (s : ByteArray) (i : Nat) : KT := KT.round Pg cfg0 rs0 kc2 (Y_Right s) { tmps := tm2 52 [(0, vS s), (20, vI (↑s.size : Int)), (21, vI (↑i : Int))], lh := lm2 52 [], g := { H := [], defers := [], rm := RM.none, base := 0 } }
theorem X_RightR_eq (s : ByteArray) (i : Nat) : KT.round Pg cfg0 rs0 kc2 (Y_Right s) { tmps := tm2 52 [(0, vS s), (20, vI (↑s.size : Int)), (21, vI (↑i : Int))], lh := lm2 52 [], g := { H := [], defers := [], rm := RM.none, base := 0 } } =
  (.branch (decide ((↑i : Int) < (↑s.size : Int)))
 (.exY fun y =>
  (.byte (s) ((↑i : Int)) (y)
   (.exB fun b =>
    (.call f_names_low [(.val (.int .u8 ((↑y.toNat : Int))))] .none [] ⟨(.ret (vB (b))), .none, []⟩
     (.branch (!b)
      (.exB fun b1 =>
       (.call f_names_high [(.val (.int .u8 ((↑y.toNat : Int))))] .none [] ⟨(.ret (vB (b1))), .none, []⟩
        (.branch (!b1)
         (.exB fun b2 =>
          (.call f_names_digit [(.val (.int .u8 ((↑y.toNat : Int))))] .none [] ⟨(.ret (vB (b2))), .none, []⟩
           (.branch (!b2)
            (.branch ((↑y.toNat : Int) != 95)
             (.out (.need true
              (.ret ⟨(.ret (vI (12))), .none, []⟩)))
             (.done ⟨tm2 52 [(0, (vS (s))), (20, (vI ((↑s.size : Int)))), (21, (vI (IntKind.i64.wrap ((↑i : Int) + 1))))], lm2 52 [], ⟨[], [], .none, 0⟩⟩))
            (.done ⟨tm2 52 [(0, (vS (s))), (20, (vI ((↑s.size : Int)))), (21, (vI (IntKind.i64.wrap ((↑i : Int) + 1))))], lm2 52 [], ⟨[], [], .none, 0⟩⟩))))
         (.done ⟨tm2 52 [(0, (vS (s))), (20, (vI ((↑s.size : Int)))), (21, (vI (IntKind.i64.wrap ((↑i : Int) + 1))))], lm2 52 [], ⟨[], [], .none, 0⟩⟩))))
      (.done ⟨tm2 52 [(0, (vS (s))), (20, (vI ((↑s.size : Int)))), (21, (vI (IntKind.i64.wrap ((↑i : Int) + 1))))], lm2 52 [], ⟨[], [], .none, 0⟩⟩))))))
 (.out (.branch (decide ((↑s.size : Int) > 32))
  (.need true
   (.ret ⟨(.ret (vI (3))), .none, []⟩))
  (.exB fun b =>
   (.call f_names_Reserved [(vS (s))] .none [] ⟨(.ret (vB (b))), .none, []⟩
    (.branch (b)
     (.need true
      (.ret ⟨(.ret (vI (12))), .none, []⟩))
     (.need true
      (.ret ⟨(.ret (vI (0))), .none, []⟩)))))))) := by kernel_rfl

@[irreducible] noncomputable def X_TyvarR (s : ByteArray) (i : Nat) : KT := KT.round Pg cfg0 rs0 kc2 (Y_Tyvar s) { tmps := tm2 35 [(0, vS s), (18, vI (↑s.size : Int)), (19, vI (↑i : Int))], lh := lm2 35 [], g := { H := [], defers := [], rm := RM.none, base := 0 } }
theorem X_TyvarR_eq (s : ByteArray) (i : Nat) : KT.round Pg cfg0 rs0 kc2 (Y_Tyvar s) { tmps := tm2 35 [(0, vS s), (18, vI (↑s.size : Int)), (19, vI (↑i : Int))], lh := lm2 35 [], g := { H := [], defers := [], rm := RM.none, base := 0 } } =
  (.branch (decide ((↑i : Int) < (↑s.size : Int)))
 (.exY fun y =>
  (.byte (s) ((↑i : Int)) (y)
   (.exB fun b =>
    (.call f_names_low [(.val (.int .u8 ((↑y.toNat : Int))))] .none [] ⟨(.ret (vB (b))), .none, []⟩
     (.branch (!b)
      (.exY fun y1 =>
       (.byte (s) ((↑i : Int)) (y1)
        (.exB fun b1 =>
         (.call f_names_digit [(.val (.int .u8 ((↑y1.toNat : Int))))] .none [] ⟨(.ret (vB (b1))), .none, []⟩
          (.branch (!b1)
           (.out (.need true
            (.ret ⟨(.ret (vB false)), .none, []⟩)))
           (.done ⟨tm2 35 [(0, (vS (s))), (18, (vI ((↑s.size : Int)))), (19, (vI (IntKind.i64.wrap ((↑i : Int) + 1))))], lm2 35 [], ⟨[], [], .none, 0⟩⟩))))))
      (.done ⟨tm2 35 [(0, (vS (s))), (18, (vI ((↑s.size : Int)))), (19, (vI (IntKind.i64.wrap ((↑i : Int) + 1))))], lm2 35 [], ⟨[], [], .none, 0⟩⟩))))))
 (.out (.need true
  (.ret ⟨(.ret (vB true)), .none, []⟩)))) := by kernel_rfl

@[irreducible] noncomputable def X_PathR (p : List (List AV)) (i : Nat) : KT := KT.round Pg cfg0 rs0 kc2 (Y_Path p) { tmps := tm2 38 [(0, AV.slice 1 p Own.no), (14, AV.slice 1 p Own.no), (15, vI (↑p.length : Int)), (16, vI (↑i : Int))], lh := lm2 38 [], g := { H := [], defers := [], rm := RM.none, base := 0 } }
theorem X_PathR_eq (p : List (List AV)) (i : Nat) : KT.round Pg cfg0 rs0 kc2 (Y_Path p) { tmps := tm2 38 [(0, AV.slice 1 p Own.no), (14, AV.slice 1 p Own.no), (15, vI (↑p.length : Int)), (16, vI (↑i : Int))], lh := lm2 38 [], g := { H := [], defers := [], rm := RM.none, base := 0 } } =
  (.branch (decide ((↑i : Int) < (↑p.length : Int)))
 (.exS fun s =>
  (.row (p) ((↑i : Int)) [(vS (s))]
   (.exI fun i1 =>
    (.call f_names_Right [(vS (s))] .none [] ⟨(.ret (vI (i1))), .none, []⟩
     (.branch (i1 != 0)
      (.out (.need true
       (.ret ⟨(.ret (vI (i1))), .none, []⟩)))
      (.branch (decide ((↑i : Int) < IntKind.i64.wrap ((↑p.length : Int) - 1)))
       (.exY fun y =>
        (.byte (s) (0) (y)
         (.exB fun b =>
          (.call f_names_high [(.val (.int .u8 ((↑y.toNat : Int))))] .none [] ⟨(.ret (vB (b))), .none, []⟩
           (.branch (!b)
            (.out (.need true
             (.ret ⟨(.ret (vI (12))), .none, []⟩)))
            (.done ⟨tm2 38 [(0, (.slice 1 (p) .no)), (14, (.slice 1 (p) .no)), (15, (vI ((↑p.length : Int)))), (16, (vI (IntKind.i64.wrap ((↑i : Int) + 1))))], lm2 38 [], ⟨[], [], .none, 0⟩⟩))))))
       (.done ⟨tm2 38 [(0, (.slice 1 (p) .no)), (14, (.slice 1 (p) .no)), (15, (vI ((↑p.length : Int)))), (16, (vI (IntKind.i64.wrap ((↑i : Int) + 1))))], lm2 38 [], ⟨[], [], .none, 0⟩⟩)))))))
 (.out (.need true
  (.ret ⟨(.ret (vI (0))), .none, []⟩)))) := by kernel_rfl

end Go.Proofs
