/-
  The numbers of the element types.
-/
import Derived.Test.YteohnepdbjmghaaAbC
namespace Go.Abs.T
def ty_api_Ins : TypeId := 23
def ty_api_State : TypeId := 80
def ty_bautaref05_Mem : TypeId := 134
def ty_bool : TypeId := 4
def ty_mem_Mem : TypeId := 152
def ty_thumb_part : TypeId := 112
def ty_thumb_shape : TypeId := 115
def ty_uint16 : TypeId := 31
def ty_uint32 : TypeId := 36
end Go.Abs.T
