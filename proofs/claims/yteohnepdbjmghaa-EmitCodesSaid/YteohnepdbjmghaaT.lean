/-
  The numbers of the element types.
-/
import Derived.Test.YteohnepdbjmghaaAbC
namespace Go.Abs.T
def ty_api_Code : TypeId := 52
def ty_api_Ins : TypeId := 23
def ty_api_Op : TypeId := 38
def ty_int : TypeId := 3
def ty_sl_api_Ins : TypeId := 39
def ty_string : TypeId := 9
def ty_thumb_part : TypeId := 112
def ty_thumb_shape : TypeId := 115
def ty_uint16 : TypeId := 31
def ty_uint32 : TypeId := 36
end Go.Abs.T
