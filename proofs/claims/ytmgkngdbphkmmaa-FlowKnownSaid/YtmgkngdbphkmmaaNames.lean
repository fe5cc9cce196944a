/-
  The functions' numbers, under names.
-/
import Derived.Test.YtmgkngdbphkmmaaTruths
namespace Go.Proofs.Ytmgkngdbphkmmaa
abbrev F.main_main : Nat := 0
abbrev F.gosem_cut : Nat := 1
abbrev F.gosem_cut_init : Nat := 2
abbrev F.crossbarlaw06_FlowKnown : Nat := 3
abbrev F.crossbarlaw06_is : Nat := 4
abbrev F.crossbarlaw06_mov : Nat := 5
abbrev F.crossbarlaw06_exit : Nat := 6
abbrev F.crossbarlaw06_jump : Nat := 7
abbrev F.crossbarlaw06_ja : Nat := 8
abbrev F.crossbarlaw06_wide : Nat := 9
abbrev F.flow_Next : Nat := 10
abbrev F.crossbarkit_SameInts : Nat := 11
abbrev F.flow_Jumps : Nat := 12
abbrev F.crossbarlaw06_known : Nat := 13
abbrev F.flow_Targets : Nat := 14
abbrev F.flow_gather : Nat := 15
abbrev F.insn_Class : Nat := 16
abbrev F.flow_targets : Nat := 17
abbrev F.slices_Contains_int_int : Nat := 18
abbrev F.flow_reached : Nat := 19
abbrev F.flow_Places : Nat := 20
abbrev F.slices_BinarySearch_int_int : Nat := 21
abbrev F.slices_Index_int_int : Nat := 22
abbrev F.flow_reached_1 : Nat := 23
abbrev F.slices_Contains_bool_bool : Nat := 24
abbrev F.cmp_Less_int : Nat := 25
abbrev F.slices_isNaN_int : Nat := 26
abbrev F.slices_Index_bool_bool : Nat := 27
abbrev F.cmp_isNaN_int : Nat := 28
abbrev F.runtime_boundsError_Error : Nat := 29
abbrev F.runtime_boundsError_RuntimeError : Nat := 30
abbrev F.runtime_errorString_Error : Nat := 31
abbrev F.runtime_errorString_RuntimeError : Nat := 32
abbrev F.runtime_plainError_Error : Nat := 33
abbrev F.runtime_plainError_RuntimeError : Nat := 34
abbrev F.runtime_errorAddressString_Error : Nat := 35
abbrev F.runtime_errorAddressString_RuntimeError : Nat := 36
abbrev F.runtime_TypeAssertionError_Error : Nat := 37
abbrev F.runtime_TypeAssertionError_RuntimeError : Nat := 38
abbrev F.runtime_PanicNilError_Error : Nat := 39
abbrev F.runtime_PanicNilError_RuntimeError : Nat := 40
abbrev F.internal_abi_Type_Align : Nat := 41
abbrev F.internal_runtime_maps_unhashableTypeError_Error : Nat := 42
abbrev F.internal_runtime_maps_unhashableTypeError_RuntimeError : Nat := 43
abbrev F.internal_abi_Kind_String : Nat := 44
end Go.Proofs.Ytmgkngdbphkmmaa
